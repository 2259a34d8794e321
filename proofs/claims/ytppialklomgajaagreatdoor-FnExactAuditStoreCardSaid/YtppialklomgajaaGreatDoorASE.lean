/-
  The texts U6, PU, U7, PW, RF, RI, RL, RC, U8, PX, UA, PY, UB, HZ, HP of this proof, one behind the other: what each proves stands at its head. No condition.
-/
import Derived.Lib.ShelfFacts
import Derived.RangeFuncFrom
import Derived.RangeFuncBound
import Derived.RangeFuncCalls
import Derived.TacticsIn
import Derived.RangeFuncLeaves
import Derived.KernelRfl
import Derived.Test.YtppialklomgajaaGreatDoorASA
import Derived.Test.YtppialklomgajaaGreatDoorASB
import Derived.Test.YtppialklomgajaaGreatDoorASC
import Derived.Test.YtppialklomgajaaGreatDoorASD
/- Contracts: each call returns what the model says. By program (wip/am/gen2.py). -/
namespace Go.Proofs.YtppialklomgajaaGreatDoor.Fw
open Go.RowKit
set_option linter.unusedVariables false
set_option linter.unusedSimpArgs false
set_option maxRecDepth 100000

theorem fok242 : FnOk Tryz.prog 242 := ⟨_, Tryz.func242, rfl, by kernel_rfl⟩
theorem fok244 : FnOk Tryz.prog 244 := ⟨_, Tryz.func244, rfl, by kernel_rfl⟩
theorem fok270 : FnOk Tryz.prog 270 := ⟨_, Tryz.func270, rfl, by kernel_rfl⟩
/- F244 internal/stringslite.Cut -/
def internal_stringslite_Cut (p0 : ByteArray) (p1 : ByteArray) : ByteArray × ByteArray × Bool := bif decide ((idx1 p0 p1) ≥ 0) then (cutS p0 0 ((idx1 p0 p1).toNat), cutS p0 ((IntKind.i64.wrap ((idx1 p0 p1) + (p1.size : Int))).toNat) p0.size, true) else (p0, ⟨#[]⟩, false)
theorem c_internal_stringslite_Cut (p0 : ByteArray) (p1 : ByteArray) (hn : ∃ c, p1 = ⟨#[c]⟩) (hq : p0.size ≤ 1048576) : CTs 244 [.o (.c (.string p0)), .o (.c (.string p1))] [Re.c (.string ((internal_stringslite_Cut p0 p1).1)), Re.c (.string ((internal_stringslite_Cut p0 p1).2.1)), Re.c (.bool ((internal_stringslite_Cut p0 p1).2.2))] := by
  refine en Tryz.func244 Tryz.ntmps244 fun w hG hgd => ?_
  have hM := internal_stringslite_Cut.eq_1 p0 p1
  have hp1 : p1.size = 1 := by obtain ⟨c, rfl⟩ := hn; rfl
  refine ad 11 ?_
  have hs1 := idx1_in p0 p1
  refine op (cl (k_idx1 p0 p1 (by assumption)) fok270) ?_
  refine ad 7 ?_
  refine cd (fun h2 => ?_) (fun h2 => ?_)
  ·
    have hM := hM.trans (bt h2)
    refine ad 1 ?_
    refine Run.mid ⟨23, 0, [(4, .v (.string (cutS p0 0 ((idx1 p0 p1).toNat)))), (5, .v (.string (cutS p0 ((IntKind.i64.wrap ((idx1 p0 p1) + (p1.size : Int))).toNat) p0.size))), (6, .v (.bool true))], []⟩ ?_ ?_
    ·
      refine dr 12 fun _ _ _ _ _ hb => ?_
      refine tk [0, 1, 3, 4, 5, 6, 7] ?_
      refine o2 2 8 ?_ ?_
      ·
        refine on1 2 [] (cu 0 ((idx1 p0 p1).toNat) (hl := rfl)) ?_
        refine tk [9] ?_
        refine on 8 [] (cu ((IntKind.i64.wrap ((idx1 p0 p1) + (p1.size : Int))).toNat) p0.size (hh := rfl)) ?_
        refine tk [10, 11] ?_
        refine dn hb ?_
        exact Run.at [] [] su (by decide)
      ·
        refine on1 8 [] (cu ((IntKind.i64.wrap ((idx1 p0 p1) + (p1.size : Int))).toNat) p0.size (hh := rfl)) ?_
        refine on 2 [] (cu 0 ((idx1 p0 p1).toNat) (hl := rfl)) ?_
        refine tk [9, 10, 11] ?_
        refine dn hb ?_
        exact Run.at [] [] su (by decide)
    exact rz (rs := [.tmp 4, .tmp 5, .tmp 6]) (congrArg (fun x => [Re.c (.string x.1), Re.c (.string x.2.1), Re.c (.bool x.2.2)]) hM)
  ·
    have hM := hM.trans (bf h2)
    refine ad 8 ?_
    exact rz (rs := [.tmp 4, .tmp 5, .tmp 6]) (congrArg (fun x => [Re.c (.string x.1), Re.c (.string x.2.1), Re.c (.bool x.2.2)]) hM)

/- F219 strings.Cut -/
def strings_Cut (p0 : ByteArray) (p1 : ByteArray) : ByteArray × ByteArray × Bool := ((internal_stringslite_Cut p0 p1).1, (internal_stringslite_Cut p0 p1).2.1, (internal_stringslite_Cut p0 p1).2.2)
theorem c_strings_Cut (p0 : ByteArray) (p1 : ByteArray) (hn : ∃ c, p1 = ⟨#[c]⟩) (hq : p0.size ≤ 1048576) : CTs 219 [.o (.c (.string p0)), .o (.c (.string p1))] [Re.c (.string ((strings_Cut p0 p1).1)), Re.c (.string ((strings_Cut p0 p1).2.1)), Re.c (.bool ((strings_Cut p0 p1).2.2))] := by
  refine en Tryz.func219 Tryz.ntmps219 fun w hG hgd => ?_
  have hM := strings_Cut.eq_1 p0 p1
  have hp1 : p1.size = 1 := by obtain ⟨c, rfl⟩ := hn; rfl
  refine ad 10 ?_
  refine op (cl (c_internal_stringslite_Cut p0 p1 (by first | assumption | exact ⟨_, rfl⟩) (by first | assumption | omega | exact om)) fok244) ?_
  refine ad 7 ?_
  exact rz (rs := [.tmp 4, .tmp 5, .tmp 6]) (congrArg (fun x => [Re.c (.string x.1), Re.c (.string x.2.1), Re.c (.bool x.2.2)]) hM)

/- F217 strings.Split -/
def strings_Split (p0 : ByteArray) (p1 : ByteArray) : (List ByteArray) := (genS p0 p1 0 (-1))
theorem c_strings_Split (p0 : ByteArray) (p1 : ByteArray) (hn : ∃ c, p1 = ⟨#[c]⟩) (hq : p0.size ≤ 1048576) : CTs 217 [.o (.c (.string p0)), .o (.c (.string p1))] [Re.sl ByteArray instDatByteArray (strings_Split p0 p1)] := by
  refine en Tryz.func217 Tryz.ntmps217 fun w hG hgd => ?_
  have hM := strings_Split.eq_1 p0 p1
  have hp1 : p1.size = 1 := by obtain ⟨c, rfl⟩ := hn; rfl
  refine ad 8 ?_
  refine og (clg (k_genS p0 p1 0 (-1) (by assumption) rfl rfl (by assumption)) fok242) fun hgq => ?_
  obtain ⟨hg1, _⟩ := hgq
  refine ad 2 ?_
  exact rz (rs := [.tmp 4]) (congrArg (fun x => [Re.sl ByteArray instDatByteArray x]) hM)

/- F210 loop.example/g00974/spec.l21Split -/
def spec_l21Split_l1 (p0 : ByteArray) (p1 : UInt8) : Nat → (List ByteArray) → Int → Nat → (List ByteArray)
  | 0, v5, v6, i => v5
  | n + 1, v5, v6, i => spec_l21Split_l1 p0 p1 n (bif ((decide ((i : Int) = (p0.size : Int))) || (decide (((byteAt p0 i).toNat : Int) = (p1.toNat : Int)))) then (v5 ++ [cutS p0 v6.toNat i]) else v5) (bif ((decide ((i : Int) = (p0.size : Int))) || (decide (((byteAt p0 i).toNat : Int) = (p1.toNat : Int)))) then ((i + 1 : Nat) : Int) else v6) (i + 1)
def spec_l21Split (p0 : ByteArray) (p1 : UInt8) : (List ByteArray) := spec_l21Split_l1 p0 p1 ((p0.size + 1) - 0) ([] : List ByteArray) 0 0
theorem c_spec_l21Split (p0 : ByteArray) (p1 : UInt8) (hq : p0.size ≤ 1048576) : CTs 210 [.o (.c (.string p0)), .o (.c (.int .u8 p1.toNat))] [Re.sl ByteArray instDatByteArray (spec_l21Split p0 p1)] := by
  refine en Tryz.func210 Tryz.ntmps210 fun w hG hgd => ?_
  have hM := spec_l21Split.eq_1 p0 p1
  refine ad 6 ?_
  refine op (l0) ?_
  refine ad 12 ?_
  refine li 0 (d := instDatByteArray) ([] : List ByteArray) ?_
  refine Run.loopM (ι := (List ByteArray) × Int × Nat) (fun s => spec_l21Split_l1 p0 p1 ((p0.size + 1) - s.2.2) s.1 s.2.1 s.2.2) (fun s => ⟨36, 1, [(0, .v (.string p0)), (1, .v (.int .u8 (p1.toNat : Int))), (5, .sl 0 s.1.length), (6, .v (.int .i64 s.2.1)), (7, .v (.int .i64 (s.2.2 : Int)))], [(0, .own ByteArray instDatByteArray s.1)]⟩) (fun s => s.2.2 ≤ (p0.size + 1) ∧ 0 ≤ s.2.1 ∧ s.2.1 ≤ (s.2.2 : Int) ∧ s.1.length ≤ s.2.2) (fun s => (p0.size + 1) - s.2.2) (([] : List ByteArray), 0, 0) [0] [0] hM (by exact ⟨by (try dsimp only); omega, by (try dsimp only); omega, by (try dsimp only); omega, by simp⟩) su (by decide) ?_
  rintro ⟨v5, v6, i⟩ hv hE
  try dsimp only at hE
  obtain ⟨hi, hv0, hv1, hv2⟩ := hv
  try dsimp only at hi hv0 hv1 hv2
  refine ad 8 ?_
  refine cd (fun h1 => ?_) (fun h1 => ?_)
  ·
    have h1l : i < (p0.size + 1) := by have := of_decide_eq_true h1; omega
    have hM := hE.trans ((congrArg (fun n => spec_l21Split_l1 p0 p1 n v5 v6 i) (show (p0.size + 1) - i = ((p0.size + 1) - (i + 1)) + 1 by omega)).trans (spec_l21Split_l1.eq_2 _ _ _ _ _ _))
    refine ad 10 ?_
    refine ag 2 ?_
    refine op (sG (s := p0) i (hk := fun hB => by (try simp at hB); omega)) ?_
    refine ag 3 ?_
    refine ad 1 ?_
    refine Run.mid ⟨36, 1, [(0, .v (.string p0)), (1, .v (.int .u8 (p1.toNat : Int))), (5, .sl 0 ((bif ((decide ((i : Int) = (p0.size : Int))) || (decide (((byteAt p0 i).toNat : Int) = (p1.toNat : Int)))) then (v5 ++ [cutS p0 v6.toNat i]) else v5).length)), (6, .v (.int .i64 (bif ((decide ((i : Int) = (p0.size : Int))) || (decide (((byteAt p0 i).toNat : Int) = (p1.toNat : Int)))) then ((i + 1 : Nat) : Int) else v6))), (7, .v (.int .i64 (i : Int)))], [(0, .own ByteArray instDatByteArray (bif ((decide ((i : Int) = (p0.size : Int))) || (decide (((byteAt p0 i).toNat : Int) = (p1.toNat : Int)))) then (v5 ++ [cutS p0 v6.toNat i]) else v5))]⟩ ?_ ?_
    · refine cd (fun h2 => ?_) (fun h2 => ?_)
      ·
        refine ad 6 ?_
        refine op (cu v6.toNat i) ?_
        refine ad 1 ?_
        have hg3 : Dat.good (cutS p0 v6.toNat i) := cutS_good (by first | assumption | exact om)
        refine op (ap [cutS p0 v6.toNat i] (hg := gdt) (hb := by simp only [List.length_cons, List.length_nil]; first | omega | exact om)) ?_
        refine ad 5 ?_
        rw [wrapN (i := i) (by first | omega | exact om)]
        refine ad 2 ?_
        exact Run.at [2] [1] (by first | exact su | (rw [h2]; exact su)) (by decide)
      ·
        refine ad 1 ?_
        exact Run.at [0] [0] (by first | exact su | (rw [h2]; exact su)) (by decide)
    refine ad 4 ?_
    rw [wrapN (i := i) (by first | omega | exact om)]
    refine ad 2 ?_
    exact Run.again (bif ((decide ((i : Int) = (p0.size : Int))) || (decide (((byteAt p0 i).toNat : Int) = (p1.toNat : Int)))) then (v5 ++ [cutS p0 v6.toNat i]) else v5, bif ((decide ((i : Int) = (p0.size : Int))) || (decide (((byteAt p0 i).toNat : Int) = (p1.toNat : Int)))) then ((i + 1 : Nat) : Int) else v6, (i + 1)) [0] [0] ⟨by exact ⟨by (try dsimp only); omega, by (try dsimp only); ((try simp only [Bool.cond_eq_ite]); (repeat' split) <;> omega), by (try dsimp only); ((try simp only [Bool.cond_eq_ite]); (repeat' split) <;> omega), by (try dsimp only); ((try simp only [Bool.cond_eq_ite]); (repeat' split); all_goals ((try simp only [List.length_append, List.length_cons, List.length_nil]); omega))⟩, hM⟩ rfl (by show _ - _ < _ - _; (try dsimp only); omega) su (by decide)
  ·
    have h1l : ¬ (i < (p0.size + 1)) := by have := of_decide_eq_false h1; omega
    have hM := hE.trans ((congrArg (fun n => spec_l21Split_l1 p0 p1 n v5 v6 i) (show (p0.size + 1) - i = 0 by omega)).trans (spec_l21Split_l1.eq_1 _ _ _ _ _))
    refine ad 6 ?_
    exact rz (rs := [.tmp 4]) (congrArg (fun x => [Re.sl ByteArray instDatByteArray x]) hM)

end Go.Proofs.YtppialklomgajaaGreatDoor.Fw
/-
  Splitting. No condition.
-/
namespace Go.Proofs.YtppialklomgajaaGreatDoor.Fw
open Go.RowKit
set_option linter.unusedVariables false
set_option linter.unusedSimpArgs false
set_option maxRecDepth 100000
theorem ib_none {c : UInt8} : ∀ l : List UInt8, (∀ y ∈ l, y ≠ c) → Lib.indexByte l c = -1
  | [], _ => rfl
  | b :: l, h => by
    have h1 : (b == c) = false := beq_eq_false_iff_ne.2 (h b List.mem_cons_self)
    rw [Lib.indexByte, h1, ib_none l (fun y hy => h y (List.mem_cons_of_mem _ hy))]
    rfl
theorem ib_at {c : UInt8} : ∀ (k : Nat) (l : List UInt8), (∀ j, j < k → l[j]? ≠ some c) → l[k]? = some c → Lib.indexByte l c = k
  | 0, [], _, h => by cases h
  | 0, b :: l, _, h => by
    have h1 : (b == c) = true := beq_iff_eq.2 (by simpa using h)
    rw [Lib.indexByte, h1]
    rfl
  | k + 1, [], _, h => by cases h
  | k + 1, b :: l, hn, h => by
    have h1 : (b == c) = false := beq_eq_false_iff_ne.2 (fun e => hn 0 (by omega) (by rw [e]; rfl))
    have ih := ib_at k l (fun j hj => hn (j + 1) (by omega)) h
    rw [Lib.indexByte, h1, ih, if_neg (by decide), if_neg (by rw [beq_iff_eq]; omega)]
    omega
theorem splitS_miss {c : UInt8} {x : ByteArray} (h : Lib.indexB x ⟨#[c]⟩ = -1) : splitS c x = [x] := Lib.splitB_miss _ _ _ _ h
theorem splitS_hit {c : UInt8} {x : ByteArray} {i : Nat} (h : Lib.indexB x ⟨#[c]⟩ = i) : splitS c x = x.extract 0 i :: splitS c (x.extract (i + 1) x.size) := by
  have hc := Lib.countB_hit x ⟨#[c]⟩ i (Nat.le_refl _) h
  unfold splitS
  rw [hc, Nat.add_comm 1, Lib.splitB_hit _ _ _ _ _ h]
  rfl
theorem byte_get {s : ByteArray} {j : Nat} (h : j < s.size) : s.data.toList[j]? = some (byteAt s j) := by
  unfold byteAt
  rw [Array.getD_eq_getD_getElem?, Array.getElem?_toList]
  have h' : j < s.data.size := h
  rw [Array.getElem?_eq_getElem h']
  rfl
theorem indexB_one (c : UInt8) (x : ByteArray) : Lib.indexB x ⟨#[c]⟩ = Lib.indexByte x.data.toList c := Lib.index_one _ _
theorem ext_ext (s : ByteArray) {b i : Nat} (hb : b ≤ i) (hi : i < s.size) : (s.extract b s.size).extract 0 (i - b) = s.extract b i ∧ (s.extract b s.size).extract (i - b + 1) (s.extract b s.size).size = s.extract (i + 1) s.size := by
  constructor
  · apply ByteArray.ext
    apply Array.toList_inj.1
    rw [Lib.extract_from_zero, Lib.extract_to_end, Lib.extract_data]
  · apply ByteArray.ext
    apply Array.toList_inj.1
    rw [Lib.extract_to_end, Lib.extract_to_end, Lib.extract_to_end, List.drop_drop]
    congr 1
    omega
theorem l21_is (c : UInt8) (p0 : ByteArray) : ∀ n i (v : List ByteArray) (b : Nat), i + n = p0.size → b ≤ i → (∀ j, b ≤ j → j < i → byteAt p0 j ≠ c) → spec_l21Split_l1 p0 c (n + 1) v (b : Int) i = v ++ splitS c (p0.extract b p0.size) := by
  intro n
  induction n with
  | zero =>
    intro i v b hi hb hno
    obtain rfl : i = p0.size := by omega
    rw [spec_l21Split_l1, spec_l21Split_l1, decide_eq_true rfl]
    show v ++ [cutS p0 (b : Int).toNat p0.size] = _
    rw [Int.toNat_natCast, splitS_miss]
    · rfl
    · rw [indexB_one, Lib.extract_to_end]
      refine ib_none _ fun y hy => ?_
      obtain ⟨j, e⟩ := List.mem_iff_getElem?.1 hy
      rw [List.getElem?_drop] at e
      have hlt : b + j < p0.data.toList.length := (List.getElem?_eq_some_iff.1 e).1
      have hlt' : b + j < p0.size := by rw [Array.length_toList] at hlt; exact hlt
      rw [byte_get hlt'] at e
      injection e with e
      rw [← e]
      exact hno _ (by omega) hlt'
  | succ n ih =>
    intro i v b hi hb hno
    have hlt : i < p0.size := by omega
    rw [spec_l21Split_l1, decide_eq_false (show ¬ (i : Int) = (p0.size : Int) by omega), Bool.false_or]
    by_cases h10 : byteAt p0 i = c
    · rw [h10, decide_eq_true rfl]
      show spec_l21Split_l1 p0 c (n + 1) (v ++ [cutS p0 (b : Int).toNat i]) ((i + 1 : Nat) : Int) (i + 1) = _
      rw [ih (i + 1) _ (i + 1) (by omega) (Nat.le_refl _) (fun j h1 h2 => by omega), Int.toNat_natCast]
      have hx : Lib.indexB (p0.extract b p0.size) ⟨#[c]⟩ = ((i - b : Nat) : Int) := by
        rw [indexB_one, Lib.extract_to_end]
        refine ib_at _ _ (fun j hj e => ?_) ?_
        · rw [List.getElem?_drop, byte_get (by omega)] at e
          injection e with e
          exact hno (b + j) (by omega) (by omega) e
        · rw [List.getElem?_drop, show b + (i - b) = i by omega, byte_get hlt, h10]
      rw [splitS_hit hx, (ext_ext p0 hb hlt).1, (ext_ext p0 hb hlt).2, List.append_assoc]
      rfl
    · rw [decide_eq_false (show ¬ ((byteAt p0 i).toNat : Int) = ((c.toNat : Nat) : Int) from fun e => h10 (UInt8.toNat_inj.1 (by omega)))]
      show spec_l21Split_l1 p0 c (n + 1) v (b : Int) (i + 1) = _
      refine ih (i + 1) v b (by omega) (by omega) fun j h1 h2 => ?_
      rcases Nat.lt_or_ge j i with h3 | h3
      · exact hno j h1 h3
      · obtain rfl : j = i := by omega
        exact h10
theorem l21_lines (c : UInt8) (p0 : ByteArray) : spec_l21Split p0 c = splitS c p0 := by
  unfold spec_l21Split
  rw [Nat.sub_zero]
  have := l21_is c p0 p0.size 0 [] 0 (by omega) (Nat.le_refl _) (fun j _ h => absurd h (by omega))
  rw [show p0.extract 0 p0.size = p0 from by apply ByteArray.ext; apply Array.toList_inj.1; rw [Lib.extract_to_end]; rfl, List.nil_append] at this
  exact this
theorem split_lines (c : UInt8) (p0 : ByteArray) : strings_Split p0 ⟨#[c]⟩ = splitS c p0 := rfl
theorem l21_size (c : UInt8) (p0 : ByteArray) (k : Nat) : (nth (spec_l21Split p0 c) k).size ≤ p0.size := by
  rw [l21_lines]
  exact splitS_size c p0 k
theorem l21_len (c : UInt8) (p0 : ByteArray) : 1 ≤ (spec_l21Split p0 c).length ∧ (spec_l21Split p0 c).length ≤ p0.size + 1 := by
  rw [l21_lines]
  exact ⟨by rw [splitS_len]; omega, splitS_le c p0⟩
theorem split_size (c : UInt8) (p0 : ByteArray) (k : Nat) : (nth (strings_Split p0 ⟨#[c]⟩) k).size ≤ p0.size := splitS_size c p0 k
theorem split_len (c : UInt8) (p0 : ByteArray) : 1 ≤ (strings_Split p0 ⟨#[c]⟩).length ∧ (strings_Split p0 ⟨#[c]⟩).length ≤ p0.size + 1 := ⟨by rw [split_lines, splitS_len]; omega, splitS_le c p0⟩
theorem cut_sizes (p0 p1 : ByteArray) : (strings_Cut p0 p1).1.size ≤ p0.size ∧ (strings_Cut p0 p1).2.1.size ≤ p0.size := by
  unfold strings_Cut internal_stringslite_Cut
  cases decide (idx1 p0 p1 ≥ 0) with
  | false => exact ⟨Nat.le_refl _, Nat.zero_le _⟩
  | true => exact ⟨cutS_size (Nat.le_refl _), cutS_size (Nat.le_refl _)⟩
theorem cutL_nths {xs : List ByteArray} {m : Nat} (h : ∀ k, (nth xs k).size ≤ m) (l u i : Nat) : (nth (cutL xs l u) i).size ≤ m := by
  unfold cutL nth
  rw [List.getD_eq_getElem?_getD, List.getElem?_drop, List.getElem?_take]
  by_cases hi : l + i < u
  · rw [if_pos hi]
    have := h (l + i)
    unfold nth at this
    rwa [List.getD_eq_getElem?_getD] at this
  · rw [if_neg hi]
    exact Nat.zero_le _
theorem cutL_len1 {xs : List ByteArray} {l u : Nat} (h : l ≤ u) (hu : u ≤ xs.length) : (cutL xs l u).length = u - l := by
  unfold cutL
  rw [List.length_drop, List.length_take]
  omega

end Go.Proofs.YtppialklomgajaaGreatDoor.Fw

/- Contracts: each call returns what the model says. By program (wip/am/gen2.py). -/
namespace Go.Proofs.YtppialklomgajaaGreatDoor.Fw
open Go.RowKit
set_option linter.unusedVariables false
set_option linter.unusedSimpArgs false
set_option maxRecDepth 100000
set_option maxHeartbeats 4000000

theorem fok106 : FnOk Tryz.prog 106 := ⟨_, Tryz.func106, rfl, by kernel_rfl⟩
theorem fok173 : FnOk Tryz.prog 173 := ⟨_, Tryz.func173, rfl, by kernel_rfl⟩
theorem fok180 : FnOk Tryz.prog 180 := ⟨_, Tryz.func180, rfl, by kernel_rfl⟩
theorem fok210 : FnOk Tryz.prog 210 := ⟨_, Tryz.func210, rfl, by kernel_rfl⟩
theorem fok211 : FnOk Tryz.prog 211 := ⟨_, Tryz.func211, rfl, by kernel_rfl⟩
theorem fok217 : FnOk Tryz.prog 217 := ⟨_, Tryz.func217, rfl, by kernel_rfl⟩
theorem fok218 : FnOk Tryz.prog 218 := ⟨_, Tryz.func218, rfl, by kernel_rfl⟩
theorem fok219 : FnOk Tryz.prog 219 := ⟨_, Tryz.func219, rfl, by kernel_rfl⟩
theorem fok220 : FnOk Tryz.prog 220 := ⟨_, Tryz.func220, rfl, by kernel_rfl⟩
/- F162 loop.example/g00974/impl.ReadRecord -/
def impl_ReadRecord_l1 (p0 : ByteArray) : Nat → (List Cell) → Nat → Int × (List Cell) × Bool
  | 0, v8, i => bif (decide (p0 = ⟨#[]⟩)) || (!decide ((impl_RecordText ((impl_ReadDecimal (nth (strings_Split p0 ⟨#[32]⟩) 0)).1) v8) = p0)) then (0, [], false) else ((impl_ReadDecimal (nth (strings_Split p0 ⟨#[32]⟩) 0)).1, v8, true)
  | n + 1, v8, i => impl_ReadRecord_l1 p0 n (v8 ++ [(Cell.mk ((impl_Unhex ((strings_Cut (nth (cutL (strings_Split p0 ⟨#[32]⟩) 1 ((IntKind.i64.wrap ((max ((strings_Split p0 ⟨#[32]⟩).length : Int) 2) - 1)).toNat)) i) ⟨#[61]⟩).1)).1) ((impl_Unhex ((strings_Cut (nth (cutL (strings_Split p0 ⟨#[32]⟩) 1 ((IntKind.i64.wrap ((max ((strings_Split p0 ⟨#[32]⟩).length : Int) 2) - 1)).toNat)) i) ⟨#[61]⟩).2.1)).1))]) (i + 1)
def impl_ReadRecord (p0 : ByteArray) : Int × (List Cell) × Bool := bif decide ((p0.size : Int) > 4000) then (0, [], false) else (impl_ReadRecord_l1 p0 (((cutL (strings_Split p0 ⟨#[32]⟩) 1 ((IntKind.i64.wrap ((max ((strings_Split p0 ⟨#[32]⟩).length : Int) 2) - 1)).toNat)).length) - 0) [] 0)
theorem c_impl_ReadRecord (p0 : ByteArray) : CTs 162 [.o (.c (.string p0))] [Re.c (.int .i64 ((impl_ReadRecord p0).1)), Re.sl Cell instDatCell ((impl_ReadRecord p0).2.1), Re.c (.bool ((impl_ReadRecord p0).2.2))] := by
  refine en Tryz.func162 Tryz.ntmps162 fun w hG hgd => ?_
  have hM := impl_ReadRecord.eq_1 p0
  refine ad 13 ?_
  refine cd (fun h1 => ?_) (fun h1 => ?_)
  ·
    have hM := hM.trans (bt h1)
    refine ad 6 ?_
    exact rz (rs := [.tmp 2, .tmp 3, .tmp 4]) (congrArg (fun x => [Re.c (.int .i64 x.1), Re.sl Cell instDatCell x.2.1, Re.c (.bool x.2.2)]) hM)
  ·
    have hM := hM.trans (bf h1)
    have hz1 : p0.size ≤ 4000 := by have := of_decide_eq_false h1; omega
    have hz2 : p0.size ≤ 1048576 := by omega
    have hsl := split_len 32 p0
    have hs0 := split_size 32 p0 0
    have hwi : (IntKind.i64.wrap ((max ((strings_Split p0 ⟨#[32]⟩).length : Int) 2) - 1)) = (max ((strings_Split p0 ⟨#[32]⟩).length : Int) 2) - 1 := IntWalk.i64_in _ (by omega)
    have hcl := cutL_len1 (xs := (strings_Split p0 ⟨#[32]⟩)) (l := 1) (u := (IntKind.i64.wrap ((max ((strings_Split p0 ⟨#[32]⟩).length : Int) 2) - 1)).toNat) (by omega) (by omega)
    refine ad 4 ?_
    refine og (clg (c_strings_Split p0 ⟨#[32]⟩ (by first | assumption | exact ⟨_, rfl⟩) (by first | assumption | omega | exact om)) fok217) fun hgq => ?_
    obtain ⟨hg2, _⟩ := hgq
    refine ad 5 ?_
    refine fz 0 ?_
    refine op (ix (xs := (strings_Split p0 ⟨#[32]⟩)) 0 om) ?_
    refine ad 1 ?_
    refine op (cl (c_impl_ReadDecimal (nth (strings_Split p0 ⟨#[32]⟩) 0) (by first | assumption | exact om)) fok218) ?_
    refine ad 16 ?_
    refine op (bX) ?_
    refine ad 1 ?_
    refine op (pa 1 ((IntKind.i64.wrap ((max ((strings_Split p0 ⟨#[32]⟩).length : Int) 2) - 1)).toNat)) ?_
    refine ad 4 ?_
    refine Run.nil 8 (α := Cell) (d := instDatCell) rfl ?_
    refine Run.loopM (ι := (List Cell) × Nat) (fun s => impl_ReadRecord_l1 p0 (((cutL (strings_Split p0 ⟨#[32]⟩) 1 ((IntKind.i64.wrap ((max ((strings_Split p0 ⟨#[32]⟩).length : Int) 2) - 1)).toNat)).length) - s.2) s.1 s.2) (fun s => ⟨75, 2, [(0, .v (.string p0)), (6, .v (.int .i64 ((impl_ReadDecimal (nth (strings_Split p0 ⟨#[32]⟩) 0)).1))), (8, .sl 1 s.1.length), (35, .sl 0 ((cutL (strings_Split p0 ⟨#[32]⟩) 1 ((IntKind.i64.wrap ((max ((strings_Split p0 ⟨#[32]⟩).length : Int) 2) - 1)).toNat)).length)), (36, .v (.int .i64 ((cutL (strings_Split p0 ⟨#[32]⟩) 1 ((IntKind.i64.wrap ((max ((strings_Split p0 ⟨#[32]⟩).length : Int) 2) - 1)).toNat)).length : Int))), (37, .v (.int .i64 (s.2 : Int)))], [(0, .ros ByteArray instDatByteArray (cutL (strings_Split p0 ⟨#[32]⟩) 1 ((IntKind.i64.wrap ((max ((strings_Split p0 ⟨#[32]⟩).length : Int) 2) - 1)).toNat))), (1, .own Cell instDatCell s.1)]⟩) (fun s => s.2 ≤ (cutL (strings_Split p0 ⟨#[32]⟩) 1 ((IntKind.i64.wrap ((max ((strings_Split p0 ⟨#[32]⟩).length : Int) 2) - 1)).toNat)).length ∧ s.1.length ≤ s.2) (fun s => ((cutL (strings_Split p0 ⟨#[32]⟩) 1 ((IntKind.i64.wrap ((max ((strings_Split p0 ⟨#[32]⟩).length : Int) 2) - 1)).toNat)).length) - s.2) ([], 0) [2, 3] [1, 0] hM (by exact ⟨by (try dsimp only); omega, by simp⟩) su (by decide) ?_
    rintro ⟨v8, i⟩ hv hE
    try dsimp only at hE
    obtain ⟨hi, hv0⟩ := hv
    try dsimp only at hi hv0
    refine ad 5 ?_
    refine cd (fun h4 => ?_) (fun h4 => ?_)
    ·
      have h4l : i < (cutL (strings_Split p0 ⟨#[32]⟩) 1 ((IntKind.i64.wrap ((max ((strings_Split p0 ⟨#[32]⟩).length : Int) 2) - 1)).toNat)).length := by have := of_decide_eq_true h4; omega
      have hM := hE.trans ((congrArg (fun n => impl_ReadRecord_l1 p0 n v8 i) (show ((cutL (strings_Split p0 ⟨#[32]⟩) 1 ((IntKind.i64.wrap ((max ((strings_Split p0 ⟨#[32]⟩).length : Int) 2) - 1)).toNat)).length) - i = (((cutL (strings_Split p0 ⟨#[32]⟩) 1 ((IntKind.i64.wrap ((max ((strings_Split p0 ⟨#[32]⟩).length : Int) 2) - 1)).toNat)).length) - (i + 1)) + 1 by omega)).trans (impl_ReadRecord_l1.eq_2 _ _ _ _))
      have hci : (nth (cutL (strings_Split p0 ⟨#[32]⟩) 1 ((IntKind.i64.wrap ((max ((strings_Split p0 ⟨#[32]⟩).length : Int) 2) - 1)).toNat)) i).size ≤ p0.size := cutL_nths (split_size 32 p0) _ _ i
      have hcs := cut_sizes (nth (cutL (strings_Split p0 ⟨#[32]⟩) 1 ((IntKind.i64.wrap ((max ((strings_Split p0 ⟨#[32]⟩).length : Int) 2) - 1)).toNat)) i) ⟨#[61]⟩
      have hu1 := impl_Unhex_good (strings_Cut (nth (cutL (strings_Split p0 ⟨#[32]⟩) 1 ((IntKind.i64.wrap ((max ((strings_Split p0 ⟨#[32]⟩).length : Int) 2) - 1)).toNat)) i) ⟨#[61]⟩).1
      have hu2 := impl_Unhex_good (strings_Cut (nth (cutL (strings_Split p0 ⟨#[32]⟩) 1 ((IntKind.i64.wrap ((max ((strings_Split p0 ⟨#[32]⟩).length : Int) 2) - 1)).toNat)) i) ⟨#[61]⟩).2.1
      refine ad 5 ?_
      refine op (ix (xs := (cutL (strings_Split p0 ⟨#[32]⟩) 1 ((IntKind.i64.wrap ((max ((strings_Split p0 ⟨#[32]⟩).length : Int) 2) - 1)).toNat))) i om) ?_
      refine ad 6 ?_
      refine op (cl (c_strings_Cut (nth (cutL (strings_Split p0 ⟨#[32]⟩) 1 ((IntKind.i64.wrap ((max ((strings_Split p0 ⟨#[32]⟩).length : Int) 2) - 1)).toNat)) i) ⟨#[61]⟩ (by first | assumption | exact ⟨_, rfl⟩) (by first | assumption | omega | exact om)) fok219) ?_
      refine ad 11 ?_
      refine op (cl (c_impl_Unhex ((strings_Cut (nth (cutL (strings_Split p0 ⟨#[32]⟩) 1 ((IntKind.i64.wrap ((max ((strings_Split p0 ⟨#[32]⟩).length : Int) 2) - 1)).toNat)) i) ⟨#[61]⟩).1) (by first | assumption | exact om)) fok180) ?_
      refine ad 9 ?_
      refine op (cl (c_impl_Unhex ((strings_Cut (nth (cutL (strings_Split p0 ⟨#[32]⟩) 1 ((IntKind.i64.wrap ((max ((strings_Split p0 ⟨#[32]⟩).length : Int) 2) - 1)).toNat)) i) ⟨#[61]⟩).2.1) (by first | assumption | exact om)) fok180) ?_
      refine ad 12 ?_
      refine op (ap [(Cell.mk ((impl_Unhex ((strings_Cut (nth (cutL (strings_Split p0 ⟨#[32]⟩) 1 ((IntKind.i64.wrap ((max ((strings_Split p0 ⟨#[32]⟩).length : Int) 2) - 1)).toNat)) i) ⟨#[61]⟩).1)).1) ((impl_Unhex ((strings_Cut (nth (cutL (strings_Split p0 ⟨#[32]⟩) 1 ((IntKind.i64.wrap ((max ((strings_Split p0 ⟨#[32]⟩).length : Int) 2) - 1)).toNat)) i) ⟨#[61]⟩).2.1)).1))] (hg := gdt) (hb := by simp only [List.length_cons, List.length_nil]; first | omega | exact om)) ?_
      refine ad 5 ?_
      rw [wrapN (i := i) (by first | omega | exact om)]
      refine ad 2 ?_
      exact Run.again ((v8 ++ [(Cell.mk ((impl_Unhex ((strings_Cut (nth (cutL (strings_Split p0 ⟨#[32]⟩) 1 ((IntKind.i64.wrap ((max ((strings_Split p0 ⟨#[32]⟩).length : Int) 2) - 1)).toNat)) i) ⟨#[61]⟩).1)).1) ((impl_Unhex ((strings_Cut (nth (cutL (strings_Split p0 ⟨#[32]⟩) 1 ((IntKind.i64.wrap ((max ((strings_Split p0 ⟨#[32]⟩).length : Int) 2) - 1)).toNat)) i) ⟨#[61]⟩).2.1)).1))]), (i + 1)) [0, 4] [2, 3] ⟨by exact ⟨by (try dsimp only); omega, by (try dsimp only); (try simp only [List.length_append, List.length_cons, List.length_nil]); omega⟩, hM⟩ rfl (by show _ - _ < _ - _; (try dsimp only); omega) su (by decide)
    ·
      have h4l : ¬ (i < (cutL (strings_Split p0 ⟨#[32]⟩) 1 ((IntKind.i64.wrap ((max ((strings_Split p0 ⟨#[32]⟩).length : Int) 2) - 1)).toNat)).length) := by have := of_decide_eq_false h4; omega
      have hM := hE.trans ((congrArg (fun n => impl_ReadRecord_l1 p0 n v8 i) (show ((cutL (strings_Split p0 ⟨#[32]⟩) 1 ((IntKind.i64.wrap ((max ((strings_Split p0 ⟨#[32]⟩).length : Int) 2) - 1)).toNat)).length) - i = 0 by omega)).trans (impl_ReadRecord_l1.eq_1 _ _ _))
      refine ad 7 ?_
      refine ag 2 ?_
      refine op (cG (hct := fun hB => (c_impl_RecordText ((impl_ReadDecimal (nth (strings_Split p0 ⟨#[32]⟩) 0)).1) v8)) (hfn := fok220)) ?_
      refine ag 3 ?_
      refine ad 1 ?_
      refine cd (fun h6 => ?_) (fun h6 => ?_)
      ·
        have hM := hM.trans (bt h6)
        refine ad 6 ?_
        exact rz (rs := [.tmp 2, .tmp 3, .tmp 4]) (congrArg (fun x => [Re.c (.int .i64 x.1), Re.sl Cell instDatCell x.2.1, Re.c (.bool x.2.2)]) hM)
      ·
        have hM := hM.trans (bf h6)
        refine ad 9 ?_
        exact rz (rs := [.tmp 2, .tmp 3, .tmp 4]) (congrArg (fun x => [Re.c (.int .i64 x.1), Re.sl Cell instDatCell x.2.1, Re.c (.bool x.2.2)]) hM)

/- F150 loop.example/g00974/spec.ReadRecord -/
def spec_ReadRecord_l1 (p0 : ByteArray) : Nat → (List Cell) → Nat → Int × (List Cell) × Bool
  | 0, v9, i => bif ((!((spec_ReadDecimal (nth (spec_l21Split p0 (32 : UInt8)) 0)).2)) || (decide ((spec_RecordText ((spec_ReadDecimal (nth (spec_l21Split p0 (32 : UInt8)) 0)).1) v9) = ⟨#[]⟩))) || (!decide ((spec_RecordText ((spec_ReadDecimal (nth (spec_l21Split p0 (32 : UInt8)) 0)).1) v9) = p0)) then (0, ([] : List Cell), false) else ((spec_ReadDecimal (nth (spec_l21Split p0 (32 : UInt8)) 0)).1, v9, true)
  | n + 1, v9, i => bif !decide (((spec_l21Split (nth (spec_l21Split p0 (32 : UInt8)) i) (61 : UInt8)).length : Int) = 2) then (0, ([] : List Cell), false) else (spec_ReadRecord_l1 p0 n (v9 ++ [(Cell.mk ((spec_Unhex (nth (spec_l21Split (nth (spec_l21Split p0 (32 : UInt8)) i) (61 : UInt8)) 0)).1) ((spec_Unhex (nth (spec_l21Split (nth (spec_l21Split p0 (32 : UInt8)) i) (61 : UInt8)) 1)).1))]) (i + 1))
def spec_ReadRecord (p0 : ByteArray) : Int × (List Cell) × Bool := bif decide ((p0.size : Int) > 4000) then (0, ([] : List Cell), false) else (spec_ReadRecord_l1 p0 (((IntKind.i64.wrap (((spec_l21Split p0 (32 : UInt8)).length : Int) - 1)).toNat) - 1) ([] : List Cell) 1)
theorem c_spec_ReadRecord (p0 : ByteArray) : CTs 150 [.o (.c (.string p0))] [Re.c (.int .i64 ((spec_ReadRecord p0).1)), Re.sl Cell instDatCell ((spec_ReadRecord p0).2.1), Re.c (.bool ((spec_ReadRecord p0).2.2))] := by
  refine en Tryz.func150 Tryz.ntmps150 fun w hG hgd => ?_
  have hM := spec_ReadRecord.eq_1 p0
  refine ad 8 ?_
  refine op (l0) ?_
  refine ad 9 ?_
  refine cd (fun h1 => ?_) (fun h1 => ?_)
  ·
    have hM := hM.trans (bt h1)
    refine ad 7 ?_
    refine li 0 (d := instDatCell) ([] : List Cell) ?_
    exact rz (rs := [.tmp 2, .tmp 3, .tmp 4]) (congrArg (fun x => [Re.c (.int .i64 x.1), Re.sl Cell instDatCell x.2.1, Re.c (.bool x.2.2)]) hM)
  ·
    have hM := hM.trans (bf h1)
    have hz1 : p0.size ≤ 4000 := by have := of_decide_eq_false h1; omega
    have hz2 : p0.size ≤ 1048576 := by omega
    have hsl := l21_len 32 p0
    have hs0 := l21_size 32 p0 0
    have hwi : IntKind.i64.wrap (((spec_l21Split p0 (32 : UInt8)).length : Int) - 1) = ((spec_l21Split p0 (32 : UInt8)).length : Int) - 1 := IntWalk.i64_in _ (by omega)
    refine ad 4 ?_
    refine og (clg (c_spec_l21Split p0 (32 : UInt8) (by first | assumption | omega | exact om)) fok210) fun hgq => ?_
    obtain ⟨hg2, _⟩ := hgq
    refine ad 5 ?_
    refine fz 1 ?_
    refine op (ix (xs := (spec_l21Split p0 (32 : UInt8))) 0 om) ?_
    refine ad 1 ?_
    refine op (cl (c_spec_ReadDecimal (nth (spec_l21Split p0 (32 : UInt8)) 0) (good_nths hg2 _)) fok173) ?_
    refine ad 8 ?_
    refine op (l0) ?_
    refine ad 8 ?_
    refine li 3 (d := instDatCell) ([] : List Cell) ?_
    refine Run.loopM (ι := (List Cell) × Nat) (fun s => spec_ReadRecord_l1 p0 (((IntKind.i64.wrap (((spec_l21Split p0 (32 : UInt8)).length : Int) - 1)).toNat) - s.2) s.1 s.2) (fun s => ⟨85, 3, [(0, .v (.string p0)), (5, .sl 0 0), (6, .sl 1 ((spec_l21Split p0 (32 : UInt8)).length)), (7, .v (.int .i64 ((spec_ReadDecimal (nth (spec_l21Split p0 (32 : UInt8)) 0)).1))), (8, .v (.bool ((spec_ReadDecimal (nth (spec_l21Split p0 (32 : UInt8)) 0)).2))), (9, .sl 2 s.1.length), (10, .v (.int .i64 (s.2 : Int)))], [(0, .lit [] 114 0), (1, .ros ByteArray instDatByteArray (spec_l21Split p0 (32 : UInt8))), (2, .own Cell instDatCell s.1)]⟩) (fun s => True ∧ s.1.length ≤ s.2) (fun s => ((IntKind.i64.wrap (((spec_l21Split p0 (32 : UInt8)).length : Int) - 1)).toNat) - s.2) (([] : List Cell), 1) [0, 1, 3] [3, 2, 0] hM (by exact ⟨trivial, by simp⟩) su (by decide) ?_
    rintro ⟨v9, i⟩ hv hE
    try dsimp only at hE
    obtain ⟨hi, hv0⟩ := hv
    try dsimp only at hi hv0
    refine ad 9 ?_
    refine cd (fun h4 => ?_) (fun h4 => ?_)
    ·
      have h4l : i < (IntKind.i64.wrap (((spec_l21Split p0 (32 : UInt8)).length : Int) - 1)).toNat := by have := of_decide_eq_true h4; omega
      have hM := hE.trans ((congrArg (fun n => spec_ReadRecord_l1 p0 n v9 i) (show ((IntKind.i64.wrap (((spec_l21Split p0 (32 : UInt8)).length : Int) - 1)).toNat) - i = (((IntKind.i64.wrap (((spec_l21Split p0 (32 : UInt8)).length : Int) - 1)).toNat) - (i + 1)) + 1 by omega)).trans (spec_ReadRecord_l1.eq_2 _ _ _ _))
      have hci := l21_size 32 p0 i
      have hsm := l21_len 61 (nth (spec_l21Split p0 (32 : UInt8)) i)
      have hu1 := spec_Unhex_good (nth (spec_l21Split (nth (spec_l21Split p0 (32 : UInt8)) i) (61 : UInt8)) 0)
      have hu2 := spec_Unhex_good (nth (spec_l21Split (nth (spec_l21Split p0 (32 : UInt8)) i) (61 : UInt8)) 1)
      refine ad 7 ?_
      refine op (ix (xs := (spec_l21Split p0 (32 : UInt8))) i om) ?_
      refine ad 1 ?_
      refine og (clg (c_spec_l21Split (nth (spec_l21Split p0 (32 : UInt8)) i) (61 : UInt8) (by first | assumption | omega | exact om)) fok210) fun hgq => ?_
      obtain ⟨hg6, _⟩ := hgq
      refine ad 9 ?_
      refine cd (fun h7 => ?_) (fun h7 => ?_)
      ·
        have hM := hM.trans (bt h7)
        refine ad 7 ?_
        refine li 0 (d := instDatCell) ([] : List Cell) ?_
        exact rz (rs := [.tmp 2, .tmp 3, .tmp 4]) (congrArg (fun x => [Re.c (.int .i64 x.1), Re.sl Cell instDatCell x.2.1, Re.c (.bool x.2.2)]) hM)
      ·
        have hM := hM.trans (bf h7)
        have hy2 : (spec_l21Split (nth (spec_l21Split p0 (32 : UInt8)) i) (61 : UInt8)).length = 2 := by have := of_decide_eq_true (by simpa using h7); omega
        refine ad 4 ?_
        refine fz 4 ?_
        refine op (ix (xs := (spec_l21Split (nth (spec_l21Split p0 (32 : UInt8)) i) (61 : UInt8))) 0 om) ?_
        refine ad 1 ?_
        refine op (cl (c_spec_Unhex (nth (spec_l21Split (nth (spec_l21Split p0 (32 : UInt8)) i) (61 : UInt8)) 0)) fok106) ?_
        refine ad 9 ?_
        refine op (ix (xs := (spec_l21Split (nth (spec_l21Split p0 (32 : UInt8)) i) (61 : UInt8))) 1 om) ?_
        refine ad 1 ?_
        refine op (cl (c_spec_Unhex (nth (spec_l21Split (nth (spec_l21Split p0 (32 : UInt8)) i) (61 : UInt8)) 1)) fok106) ?_
        refine ad 12 ?_
        refine op (ap [(Cell.mk ((spec_Unhex (nth (spec_l21Split (nth (spec_l21Split p0 (32 : UInt8)) i) (61 : UInt8)) 0)).1) ((spec_Unhex (nth (spec_l21Split (nth (spec_l21Split p0 (32 : UInt8)) i) (61 : UInt8)) 1)).1))] (hg := gdt) (hb := by simp only [List.length_cons, List.length_nil]; first | omega | exact om)) ?_
        refine ad 6 ?_
        rw [wrapN (i := i) (by first | omega | exact om)]
        refine ad 2 ?_
        exact Run.again ((v9 ++ [(Cell.mk ((spec_Unhex (nth (spec_l21Split (nth (spec_l21Split p0 (32 : UInt8)) i) (61 : UInt8)) 0)).1) ((spec_Unhex (nth (spec_l21Split (nth (spec_l21Split p0 (32 : UInt8)) i) (61 : UInt8)) 1)).1))]), (i + 1)) [0, 1, 8] [5, 6, 7] ⟨by exact ⟨trivial, by (try dsimp only); (try simp only [List.length_append, List.length_cons, List.length_nil]); omega⟩, hM⟩ rfl (by show _ - _ < _ - _; (try dsimp only); omega) su (by decide)
    ·
      have h4l : ¬ (i < (IntKind.i64.wrap (((spec_l21Split p0 (32 : UInt8)).length : Int) - 1)).toNat) := by have := of_decide_eq_false h4; omega
      have hM := hE.trans ((congrArg (fun n => spec_ReadRecord_l1 p0 n v9 i) (show ((IntKind.i64.wrap (((spec_l21Split p0 (32 : UInt8)).length : Int) - 1)).toNat) - i = 0 by omega)).trans (spec_ReadRecord_l1.eq_1 _ _ _))
      refine ad 5 ?_
      refine op (cl (c_spec_RecordText ((spec_ReadDecimal (nth (spec_l21Split p0 (32 : UInt8)) 0)).1) v9) fok211) ?_
      refine ad 8 ?_
      refine ag 3 ?_
      refine ad 1 ?_
      refine ag 4 ?_
      refine ad 1 ?_
      refine cd (fun h10 => ?_) (fun h10 => ?_)
      ·
        have hM := hM.trans (bt h10)
        refine ad 7 ?_
        refine li 0 (d := instDatCell) ([] : List Cell) ?_
        exact rz (rs := [.tmp 2, .tmp 3, .tmp 4]) (congrArg (fun x => [Re.c (.int .i64 x.1), Re.sl Cell instDatCell x.2.1, Re.c (.bool x.2.2)]) hM)
      ·
        have hM := hM.trans (bf h10)
        refine ad 9 ?_
        exact rz (rs := [.tmp 2, .tmp 3, .tmp 4]) (congrArg (fun x => [Re.c (.int .i64 x.1), Re.sl Cell instDatCell x.2.1, Re.c (.bool x.2.2)]) hM)

end Go.Proofs.YtppialklomgajaaGreatDoor.Fw
/-
  How long stores and records are. No condition.
-/
namespace Go.Proofs.YtppialklomgajaaGreatDoor.Fw
open Go.RowKit
set_option linter.unusedVariables false
set_option linter.unusedSimpArgs false
set_option maxRecDepth 100000
theorem spec_PutKey_l1_len (p0 : List Cell) (p1 p2 : ByteArray) : ∀ n v b i, (spec_PutKey_l1 p0 p1 p2 n v b i).length ≤ v.length + n + (bif b then 0 else 1) := by
  intro n
  induction n with
  | zero =>
    intro v b i
    rw [spec_PutKey_l1]
    cases b <;> simp
  | succ n ih =>
    intro v b i
    rw [spec_PutKey_l1]
    refine Nat.le_trans (ih _ _ _) ?_
    generalize (!(ltB ((nth p0 i).Key) p1 || decide (((nth p0 i).Key) = p1))) = q
    cases (!decide (((nth p0 i).Key) = p1)) <;> cases b <;> cases q <;> simp <;> omega
theorem spec_PutKey_len (p0 : List Cell) (p1 p2 : ByteArray) : (spec_PutKey p0 p1 p2).length ≤ p0.length + 1 := by
  unfold spec_PutKey
  cases (!(spec_KeyOk p1)) || (decide ((p2.size : Int) > 60)) with
  | true => show ([] ++ p0).length ≤ _; rw [List.nil_append]; omega
  | false =>
    show (spec_PutKey_l1 p0 p1 p2 (p0.length - 0) [] _ 0).length ≤ _
    have := spec_PutKey_l1_len p0 p1 p2 (p0.length - 0) [] (decide (p2 = ⟨#[]⟩)) 0
    revert this
    cases decide (p2 = ⟨#[]⟩) <;> simp <;> omega
theorem impl_put_len (p0 : List Cell) (p1 p2 : ByteArray) (hb : p0.length ≤ 9223372036854775806) : (impl_put p0 p1 p2).length ≤ p0.length + 1 := by
  have hdl := DeleteFunc_len p0 p1 hb
  unfold impl_put
  cases (!(impl_KeyOk p1)) || (decide ((p2.size : Int) > 60)) with
  | true => show p0.length ≤ _; omega
  | false =>
    simp only [cond_false]
    cases decide (p2 = ⟨#[]⟩) with
    | true => show (slices_DeleteFunc_Cell p0 p1).length ≤ _; omega
    | false =>
      show (insL _ _ _).length ≤ _
      unfold insL
      rw [List.length_append, List.length_take, List.length_cons, List.length_drop]
      omega
theorem impl_ReadRecord_l1_len (p0 : ByteArray) : ∀ n v i, (impl_ReadRecord_l1 p0 n v i).2.1.length ≤ v.length + n := by
  intro n
  induction n with
  | zero =>
    intro v i
    rw [impl_ReadRecord_l1]
    generalize ((decide (p0 = ⟨#[]⟩)) || _) = q
    cases q
    · exact Nat.le_refl _
    · exact Nat.zero_le _
  | succ n ih =>
    intro v i
    rw [impl_ReadRecord_l1]
    refine Nat.le_trans (ih _ _) ?_
    rw [List.length_append, List.length_singleton]
    omega
theorem impl_ReadRecord_len (p0 : ByteArray) : (impl_ReadRecord p0).2.1.length ≤ 4001 := by
  unfold impl_ReadRecord
  cases h1 : decide ((p0.size : Int) > 4000) with
  | true => exact Nat.zero_le _
  | false =>
    have hz1 : p0.size ≤ 4000 := by have := of_decide_eq_false h1; omega
    have hsl := split_len 32 p0
    refine Nat.le_trans (impl_ReadRecord_l1_len p0 _ [] 0) ?_
    unfold cutL
    rw [List.length_drop, List.length_take, List.length_nil]
    omega
theorem spec_ReadRecord_l1_len (p0 : ByteArray) : ∀ n v i, (spec_ReadRecord_l1 p0 n v i).2.1.length ≤ v.length + n := by
  intro n
  induction n with
  | zero =>
    intro v i
    rw [spec_ReadRecord_l1]
    generalize (((!_) || _) || _) = q
    cases q
    · exact Nat.le_refl _
    · exact Nat.zero_le _
  | succ n ih =>
    intro v i
    rw [spec_ReadRecord_l1]
    generalize (!decide (((spec_l21Split (nth (spec_l21Split p0 (32 : UInt8)) i) (61 : UInt8)).length : Int) = 2)) = q
    cases q
    · refine Nat.le_trans (ih _ _) ?_
      rw [List.length_append, List.length_singleton]
      omega
    · exact Nat.zero_le _
theorem spec_ReadRecord_len (p0 : ByteArray) : (spec_ReadRecord p0).2.1.length ≤ 4001 := by
  unfold spec_ReadRecord
  cases h1 : decide ((p0.size : Int) > 4000) with
  | true => exact Nat.zero_le _
  | false =>
    have hz1 : p0.size ≤ 4000 := by have := of_decide_eq_false h1; omega
    have hsl := l21_len 32 p0
    rw [cond_false, IntWalk.i64_in _ (by omega)]
    refine Nat.le_trans (spec_ReadRecord_l1_len p0 _ [] 1) ?_
    rw [List.length_nil]
    omega

end Go.Proofs.YtppialklomgajaaGreatDoor.Fw

/-
  A range over an iterator that keeps its state in a cell of its own: the loop's law, at the wide fence. After the library's laws of ranges over a function. No condition.
-/
namespace Go.Proofs.YtppialklomgajaaGreatDoor.Fw
open Go.RowKit
set_option linter.unusedVariables false

theorem callsIn_any {n m : Nat} {P : Program} {f : FuncId} {args : Array Value} {w : World} {R : Ending → World → Prop} (h : CallsIn Fence.wide n P f args w R) : CallsIn Fence.wide m P f args w R := callsIn_wide.2 (callsIn_wide.1 h)
theorem roundIn_any {n m : Nat} {P : Program} {l : Nat} {f : FuncId} {tmps : Array Value} {assign body : Code} {w : World} {R : Ending → World → Prop} (h : RoundIn Fence.wide n P l f tmps assign body w R) : RoundIn Fence.wide m P l f tmps assign body w R :=
  ⟨h.1, fun c cs _ => h.2 c cs (room_wide _)⟩

/-- Block b alone was turned. -/
def Turn (b : Nat) (W W' : World) : Prop := (W'.os = W.os ∧ W'.tape = W.tape ∧ W'.output = W.output ∧ W'.heap.size = W.heap.size) ∧ ∀ k, k ≠ b → W'.heap[k]? = W.heap[k]?
theorem Turn.below {b n : Nat} {w W W' : World} (h : Turn b W W') (hb : n ≤ b) (hB : Below n w W) : Below n w W' :=
  ⟨h.1.1.trans hB.os, h.1.2.1.trans hB.tape, h.1.2.2.1.trans hB.output, by rw [h.1.2.2.2]; exact hB.size, fun k hk => (h.2 k (by omega)).trans (hB.block k hk)⟩
/-- The act, its deferred calls put away. -/
def bare (a : Act) : Act := { a with defers := [] }
theorem fold_put (a : Act) (p : Tmp) (v : Value) : ({ tmps := ((#[p] : Array Tmp).zip #[v]).foldl (fun t (p, v) => t.setIfInBounds p v) a.tmps, defers := [] } : Act) = (bare a).put (some p) v := by simp [bare, Act.put]
/-- An iterator over xs that keeps its state in the cell of block bs: what it asks of a round is Kp, what it reads at its start is Rd. -/
def SeqOwn (P : Program) (g : Nat) (lb : Array Value) (bs : Nat) (Kp : World → World → Prop) (Rd : World → Prop) (xs : List ByteArray) : Prop :=
  ∀ (l : Nat) (J : List ByteArray → World → Prop) (W : World), Rd W →
    (∀ pre W1 W2, J pre W1 → Turn bs W1 W2 → J pre W2) →
    (∀ pre x W1, (pre ++ [x]) <+: xs → J pre W1 → YieldAt Fence.wide 0 P l #[.string x] W1 fun e W' => e = .returned (.bool true) ∧ J (pre ++ [x]) W' ∧ Kp W1 W') →
    J [] W →
    CallsIn Fence.wide 0 P g (#[.func (.yield l) #[] #[]] ++ lb) W fun e W' => (∃ v, e = .returned v) ∧ J xs W'

def roundPostO (B : Nat) (Kp : World → World → Prop) (I : List ByteArray → World → Prop) (xs : List ByteArray) (W : World) : Exit → Act → World → Prop
  | .normal, _, W' => KeepsOthers W W' ∧ Kp W W' ∧ I xs W'
  | _, _, _ => False

theorem wp_rangeOwn {P : Program} {g : Operand} {pt : Tmp} {assign body : Code} {Q : Exit → Act → World → Prop} {a : Act} {w : World} {gf : Nat} {lb : Array Value}
    (hg : a.eval g = .func (.func gf) #[] lb) (eg : ∀ args w, (callFunc gf args).run P w = .ok (.enter gf args) w) {bs : Nat} (hbs : bs < w.heap.size)
    {Kp : World → World → Prop} {Rd : World → Prop} {xs : List ByteArray} (hseq : SeqOwn P gf lb bs Kp Rd xs)
    (hRd : ∀ o o', Rd ((w.alloc o).alloc o'))
    (hKt : ∀ {A B C : World}, Kp A B → Kp B C → Kp A C) (hKb : ∀ (W : World) (l : Nat) (o' : Obj), w.heap.size ≤ l → Kp W (W.putObj l o'))
    (I : List ByteArray → World → Prop) (hI : OwnFrom w.heap.size I) (hIs : ∀ pre W W2, I pre W → Turn bs W W2 → I pre W2) (h0 : I [] w) (a₁ : ByteArray → Act)
    (hassign : ∀ (l : Nat) (x : ByteArray) (W : World) (K : Act → World → Prop), K (a₁ x) W →
      assign.wpIn (Fence.wide.inRound l) 0 P (Exit.then K (fun _ _ _ => False)) ((bare a).put (some pt) (.string x)) W)
    (hbody : ∀ (l : Nat) (pre : List ByteArray) (x : ByteArray) (W : World), (pre ++ [x]) <+: xs → I pre W → body.wpIn (Fence.wide.inRound l) 0 P (roundPostO w.heap.size Kp I (pre ++ [x]) W) (a₁ x) W)
    (hdone : ∀ (D : Nat) (W : World), w.heap.size ≤ D → I xs W → W.heap[D]? = some (.deferred (some [])) → Q .normal { a with defers := { target := .collected D, args := #[] } :: a.defers } W) :
    (Code.rangeFunc g #[pt] assign body).wp P Q a w := by
  refine (wpIn_wide (n := 0)).1 (wpIn_rangeFunc ?_)
  intro fn hfn
  obtain ⟨rec, hrec⟩ : ∃ rec : LoopState → Option Code → Loop, rec = fun st pe => { state := st, pending := pe, fn, tmps := a.tmps, params := #[pt], assign, body, defers := w.heap.size } := ⟨_, rfl⟩
  obtain ⟨W1, hW1⟩ : ∃ W1, (w.alloc (.deferred (some []))).alloc (.loop (rec .ready none)) = W1 := ⟨_, rfl⟩
  have hL1 : W1.heap[w.heap.size + 1]? = some (.loop (rec .ready none)) := by
    rw [← hW1]; have := World.alloc_heap_new (w.alloc (.deferred (some []))) (.loop (rec .ready none)); rwa [World.size_alloc] at this
  have hK1 : W1.heap[w.heap.size]? = some (.deferred (some [])) := by
    rw [← hW1]; exact (Below.heap_alloc _ _ _ (by simp)).trans (World.alloc_heap_new w _)
  have hI1 : I [] W1 := by rw [← hW1]; exact hI.alloc _ (hI.alloc _ h0)
  refine ⟨w.heap.size + 1, [{ target := .collected w.heap.size, args := #[] }], W1, { target := .fn (.func gf) lb, args := #[.func (.yield (w.heap.size + 1)) #[] #[]] }, W1, gf,
    #[.func (.yield (w.heap.size + 1)) #[] #[]] ++ lb, W1, ?_, ?_, ?_, ?_, ?_, ?_⟩
  · rw [← hW1, hrec]; exact run_enterLoop_outer _ _ _ _ _
  · simp only [resolve, hg]
    simp [go_sem]
  · intro f' hf'; trivial
  · simp [invoke, go_sem, eg]
  · intro h; cases h
  · refine callsIn_any ((hseq (w.heap.size + 1)
      (fun pre W => I pre W ∧ W.heap[w.heap.size + 1]? = some (.loop (rec .ready none)) ∧ W.heap[w.heap.size]? = some (.deferred (some [])))
      W1 (by rw [← hW1]; exact hRd _ _)
      (fun pre W W2 hs ht => ⟨hIs _ _ _ hs.1 ht, (ht.2 _ (by omega)).trans hs.2.1, (ht.2 _ (by omega)).trans hs.2.2⟩)
      ?_ ⟨hI1, hL1, hK1⟩).mono ?_)
    · rintro pre x W hpx ⟨hi, hl, hk⟩
      have hlt : w.heap.size + 1 < W.heap.size := (Array.getElem?_eq_some_iff.1 hl).1
      have hy := run_yield (P := P) (args := #[Value.string x]) hl (by rw [hrec]; rfl)
      rw [hrec] at hy
      refine ⟨fn, _, assign, body, hy, roundIn_of_wpIn hfn ?_⟩
      rw [fold_put]
      refine hassign _ x W _ ⟨_, run_beginRound hl (by rw [hrec]), ?_⟩
      have hl2 : (W.putObj (w.heap.size + 1) (.loop { rec .ready none with state := .busy })).heap[w.heap.size + 1]? = some (.loop { rec .ready none with state := .busy }) := World.putObj_heap_same hlt
      have hk2 : (W.putObj (w.heap.size + 1) (.loop { rec .ready none with state := .busy })).heap[w.heap.size]? = some (.deferred (some [])) := (World.putObj_heap_other (by omega)).trans hk
      have hw2 : Kp W (W.putObj (w.heap.size + 1) (.loop { rec .ready none with state := .busy })) := hKb _ _ _ (by omega)
      refine wpIn_mono (hbody _ pre x _ hpx (hI.putObj _ hi (by omega) hl rfl)) ?_
      rintro e a3 W3 hp
      cases e with
      | normal =>
        obtain ⟨hk3, hkp3, hi3⟩ := hp
        have hl3 := hk3.same _ _ hl2 rfl
        have hr := run_endRound (P := P) none hl3
        rw [hrec] at hr hl3
        refine ⟨_, _, hr, rfl, ⟨hI.putObj _ hi3 (by omega) hl3 rfl, ?_, ?_⟩, hKt (hKt hw2 hkp3) (hKb _ _ _ (by omega))⟩
        · rw [hrec]; exact World.putObj_heap_same (Array.getElem?_eq_some_iff.1 hl3).1
        · exact (World.putObj_heap_other (by omega)).trans (hk3.same _ _ hk2 rfl)
      | ret => exact hp.elim
      | exit id => exact hp.elim
      | goto t => exact hp.elim
      | panic ch => exact hp.elim
      | outgrown => exact hp.elim
    · rintro e W2 ⟨⟨v, rfl⟩, hi, hl, hk⟩
      refine ⟨none, _, by have := run_endLoop (P := P) hl (by rw [hrec]; simp); rw [hrec] at this; exact this, hdone _ _ (Nat.le_refl _) (hI.putObj _ hi (by omega) hl rfl) ((World.putObj_heap_other (by omega)).trans hk)⟩

/-! ## What is walked without a fence holds in a round, too -/
def noDef (o : Oper) : Bool := match o.op with
  | .defer _ => false
  | _ => true
theorem noDef_ne {o : Oper} (h : noDef o = true) : ∀ c, o.op ≠ .defer c := fun c e => by
  unfold noDef at h
  rw [e] at h
  cases h
theorem rowsIn_wide {n : Nat} {P : Program} {row : String} {args : Array Value} {w : World} {R : Value → World → Prop} (h : Rows P row args w R) : RowsIn Fence.wide n P row args w R := fun c cs _ =>
  let ⟨v, w', r, s⟩ := h c cs
  ⟨v, w', r, stepsIn_wide.2 s⟩
theorem wpListIn_of {r n : Nat} {P : Program} {ops : Array Oper} {Q : Exit → Act → World → Prop} (hQ : ¬ LetsOut Q) : ∀ (l : List Oper) (a : Act) (w : World), l.all noDef = true → wpList P ops Q l a w → wpListIn (Fence.wide.inRound r) n P ops Q l a w := by
  intro l
  induction l with
  | nil => intro a w _ h; exact h
  | cons o rest ih =>
    intro a w hd h
    rw [List.all_cons, Bool.and_eq_true] at hd
    unfold wpList at h
    unfold wpListIn
    split
    · rename_i hw
      rw [if_pos hw] at h
      rcases h with h | ⟨_, h⟩
      · refine ⟨fun _ _ => trivial, ?_⟩
        rw [Oper.semAt_eq _ _ _ (noDef_ne hd.1)]
        unfold Oper.wp at h
        generalize (execOp a.eval o).run P w = res at h
        unfold Oper.upon at h
        unfold Oper.uponIn
        split at h
        · exact ih _ _ hd.2 h
        · exact ih _ _ hd.2 h
        · exact ih _ _ hd.2 h
        · refine ⟨fun h => (by cases h), CallsIn.inRound r (callsIn_wide.2 (h.mono ?_))⟩
          rintro (v | c | _) w2 h2
          · exact ih _ _ hd.2 h2
          · exact h2
          · exact h2
        · refine ⟨fun h => (by cases h), ?_⟩
          show RowsIn Fence.wide _ _ _ _ _ _
          exact RowsIn.mono (rowsIn_wide h) fun v w2 h2 => ih _ _ hd.2 h2
        · exact h
        · exact h.elim
      · exact absurd h hQ
    · rename_i hw
      rw [if_neg hw] at h
      exact ⟨fun _ _ => trivial, ih _ _ hd.2 h⟩
theorem wpIn_regionOf {r n : Nat} {P : Program} {Q : Exit → Act → World → Prop} {a : Act} {w : World} {id : Nat} {l : List Oper} (hQ : ¬ LetsOut Q) (hd : l.all noDef = true) (h : wpList P l.toArray Q l a w) : (Code.region id l.toArray false).wpIn (Fence.wide.inRound r) n P Q a w :=
  wpIn_region_lit (wpListIn_of hQ l a w hd h)

/-! ## Steps at the wide fence -/
section
variable {n m : Nat} {ρ : List (Nat × Value)} {a : Act} {w : World} {P : Program} {ops : Array Oper} {Q : Exit → Act → World → Prop} {rest : List Oper} {ty : TypeId} {pos : String} {after : Array Edge} {d : Nat} {op : Op}
theorem stI_val (hE : Env n ρ a) {v : Value} (hy : Yields P a w op ty v) (hnd : ∀ c, op ≠ .defer c) (hd : Nat.blt d n = true) (k : ∀ a, Env n ((d, v) :: ρ) a → wpListIn Fence.wide m P ops Q rest a w) :
    wpListIn Fence.wide m P ops Q (⟨some d, op, ty, pos, after, none⟩ :: rest) a w := by
  unfold wpListIn
  rw [if_pos (by simp [Region.wanted])]
  refine ⟨fun _ _ => trivial, ?_⟩
  rw [Oper.semAt_eq _ _ _ hnd, hy]
  exact k _ (hE.put hd v)
theorem map_eval (hE : Env n ρ a) : ∀ {xs : List Operand} {vs : List Value}, xs.map (ev? ρ) = vs.map some → xs.map a.eval = vs
  | [], [], _ => rfl
  | [], _ :: _, h => by simp at h
  | _ :: _, [], h => by simp at h
  | x :: xs, v :: vs, h => by
    simp only [List.map_cons, List.cons.injEq] at h
    rw [List.map_cons, hE.eval h.1, map_eval hE h.2]
/-- The round of a loop is run: yield is called. -/
theorem stI_yield (hE : Env n ρ a) {x : Operand} {l : Nat} {xs : Array Operand} {ts : Array TypeId} {vs : List Value} {R : Ending → World → Prop}
    (hx : ev? ρ x = some (.func (.yield l) #[] #[])) (hxs : xs.toList.map (ev? ρ) = vs.map some) (hY : YieldAt Fence.wide m P l vs.toArray w R) (hd : Nat.blt d n = true)
    (hR : ∀ e w', R e w' → ∃ v, e = .returned v) (k : ∀ v w', R (.returned v) w' → ∀ a, Env n ((d, v) :: ρ) a → wpListIn Fence.wide m P ops Q rest a w') :
    wpListIn Fence.wide m P ops Q (⟨some d, .call { callee := .value x, args := xs, argTypes := ts }, ty, pos, after, none⟩ :: rest) a w := by
  obtain ⟨fn, tmps, assign, body, hy, hr⟩ := hY
  have hm : xs.map a.eval = vs.toArray := by
    apply Array.toList_inj.1
    rw [Array.toList_map, map_eval hE hxs]
  have hrun : (execOp a.eval ⟨some d, .call { callee := .value x, args := xs, argTypes := ts }, ty, pos, after, none⟩).run P w = .ok (.round l fn tmps assign body) w := by
    simp [execOp, resolve, hm, hE.eval hx, Deferred.ofValue, invoke, hy]
  unfold wpListIn
  rw [if_pos (by simp [Region.wanted])]
  refine ⟨fun _ _ => trivial, ?_⟩
  rw [Oper.semAt_eq _ _ _ (by intro c h; cases h), hrun, Oper.uponIn_round]
  refine ⟨fun h => (by cases h), (roundIn_any hr).mono fun e w' h => ?_⟩
  obtain ⟨v, rfl⟩ := hR e w' h
  exact k v w' h _ (hE.put hd v)
/-- A cell of a block of its own is read. -/
theorem y_box (hE : Env n ρ a) {x : Operand} {t b : Nat} {v : Value} {T : TypeId} {fz : Nat × Nat} (hx : ev? ρ x = some (.pointer (some ⟨b, 0, none⟩))) (h : w.heap[b]? = some (.cells #[v] T fz)) (ht : chkOne P t = true) : Yields P a w (.load t x) ty v := by
  intro _ _ _ _
  have hc : w.cell? ⟨b, 0, none⟩ = some v := by simp [World.cell?, h]
  simp only [execOp, hE.eval hx, Instr.loadAt, Instr.sureAddr, Sem.run_bind, Sem.run_pure, Result.andThen_ok, run_load_one hc ht]
theorem y_cutHi (hE : Env n ρ a) {x y : Operand} {t h : Nat} {s : ByteArray} {i : Int} (hx : ev? ρ x = some (.string s)) (hy : ev? ρ y = some (.int .i64 i)) (hi : i = (h : Int)) (hh : h ≤ s.size) (ht : P.underlying t = some .string) :
    Yields P a w (.slice t x none (some y) none) ty (.string (s.extract 0 h)) := by
  subst hi
  intro _ _ _ _
  simp [execOp, hE.eval hx, hE.eval hy, Instr.sliceAt, Instr.slice, run_underlying ht, Instr.sliceBounds, Instr.sliceBound, asIntOf, hh]
theorem y_cutLo (hE : Env n ρ a) {x y : Operand} {t l : Nat} {s : ByteArray} {i : Int} (hx : ev? ρ x = some (.string s)) (hy : ev? ρ y = some (.int .i64 i)) (hi : i = (l : Int)) (hl : l ≤ s.size) (ht : P.underlying t = some .string) :
    Yields P a w (.slice t x (some y) none none) ty (.string (s.extract l s.size)) := by
  subst hi
  intro _ _ _ _
  simp [execOp, hE.eval hx, hE.eval hy, Instr.sliceAt, Instr.slice, run_underlying ht, Instr.sliceBounds, Instr.sliceBound, asIntOf, hl]
/-- A cell of a block of its own is written. -/
theorem st_cellB (hE : Env n ρ a) {t : TypeId} {x y : Operand} {v0 v : Value} {b : Nat} {T : TypeId} (hx : ev? ρ x = some (.pointer (some ⟨b, 0, none⟩))) (hy : ev? ρ y = some v) (hrow : w.heap[b]? = some (.cells #[v0] T (0, 0))) (hds : v.cells = #[v])
    (hsz : ∀ w, (sizeOf t).run P w = .ok 1 w) (h1 : Value.oneCell' v = true) (K : ∀ w', Turn b w w' → w'.heap[b]? = some (.cells #[v] T (0, 0)) → ∀ a, Env n ρ a → wpList P ops Q rest a w') :
    wpList P ops Q (⟨none, .store t x y, ty, pos, after, none⟩ :: rest) a w := by
  refine wpList_plain rfl fun K' hK => ?_
  unfold Oper.wp
  have hst := run_storeCells_at P b 0 T [v] 0 #[v0] w hrow (by simp) (fun u hu => by rw [List.mem_singleton.1 hu]; exact h1)
  have : (execOp a.eval ⟨none, .store t x y, ty, pos, after, none⟩).run P w = .ok .skip (w.setRow b #[v]) := by
    have hs : v.cells.size = 1 := by rw [hds]; rfl
    simp only [execOp, hE.eval hx, hE.eval hy, Instr.storeAt, Instr.sureAddr, storeVar, Sem.run_bind, Sem.run_pure, Result.andThen_ok, hsz, hs, ne_eq, not_true_eq_false, if_false]
    rw [hds, show (#[v] : Array Value).toList = [v] from rfl, hst]
    simp
  rw [this]
  exact hK _ _ (K (w.setRow b #[v]) ⟨⟨rfl, rfl, rfl, size_setRow _ _ _⟩, fun k hk => setRow_other w b k _ hk⟩ (setRow_heap w b _ _ T _ hrow) _ (hE.put_none undef))
end

/-! ## A function whose body holds a range over a function -/
theorem enterM {P : Program} {f : FuncId} {fn : Func} {c : Code} {n : Nat} {vs : List Value} {w : World} {R : Ending → World → Prop}
    (hf : P.funcs[f]? = some fn) (hb : fn.body = some c) (hn : fn.ntmps = n) (hl : vs.length ≤ n)
    (h : ∀ a, Env n (slots 0 vs) a → c.wp P (bodyPostM Fence.wide 0 P fn R) a w) : Calls P f vs.toArray w R := by
  refine (callsIn_wide (n := 0)).1 (callsIn_of_wp_marks hf hb trivial (wpIn_wide.2 ?_) rfl)
  refine h _ ⟨?_, rfl, fun t v hv => ?_⟩
  · simp [hn]; omega
  · obtain ⟨_, h2⟩ := slots_lk vs 0 t v hv
    simp only [Nat.sub_zero] at h2
    obtain ⟨hlt, _⟩ := List.getElem?_eq_some_iff.1 h2
    simp [Array.getD_eq_getD_getElem?, Array.getElem?_append_left (show t < vs.toArray.size by simpa using hlt), h2]
theorem stD_val {P : Program} {n d : Nat} {ρ : List (Nat × Value)} {a : Act} {w : World} {ops : Array Oper} {Q : Exit → Act → World → Prop} {rest : List Oper} {op : Op} {ty : TypeId} {pos : String} {after : Array Edge} (hE : Env n ρ (bare a)) {v : Value} (hy : Yields P (bare a) w op ty v) (hd : Nat.blt d n = true)
    (k : ∀ a', a'.defers = a.defers → Env n ((d, v) :: ρ) (bare a') → wpList P ops Q rest a' w) : wpList P ops Q (⟨some d, op, ty, pos, after, none⟩ :: rest) a w := by
  refine wpList_plain rfl fun K hK => ?_
  unfold Oper.wp
  rw [show a.eval = (bare a).eval from rfl, hy]
  exact hK _ _ (k (a.put (some d) v) rfl (hE.put hd v))
theorem SlO.oneB {w : World} {v : Value} {xs : List ByteArray} {F : List Nat} (h : SlO w v xs F) : ∀ b ∈ F, ∃ arr T fz, w.heap[b]? = some (.cells arr T fz) := by
  rcases SlO_iff.1 h with ⟨_, _, rfl⟩ | ⟨g, cap, arr, T, Fs, _, hg, _, _, _, rfl, hE⟩
  · intro b hb
    cases hb
  · have hFs : Fs.flatten = [] := by
      rw [List.flatten_eq_nil_iff]
      intro G hG
      obtain ⟨i, hi⟩ := List.mem_iff_getElem?.1 hG
      have hlt : i < xs.length := by rw [← hE.1]; exact (List.getElem?_eq_some_iff.1 hi).1
      obtain ⟨G', hG', ho⟩ := hE.2 i _ (List.getElem?_eq_getElem hlt)
      rw [hi] at hG'
      cases hG'
      exact ho.2
    rw [hFs]
    intro b hb
    obtain rfl := List.mem_singleton.1 hb
    exact ⟨_, _, _, hg⟩
end Go.Proofs.YtppialklomgajaaGreatDoor.Fw

/-
  strings.SplitAfterSeq at line ends: the iterator that it hands back. No condition.
-/
namespace Go.Proofs.YtppialklomgajaaGreatDoor.Fw
open Go.RowKit
set_option linter.unusedVariables false
set_option maxRecDepth 100000

/-- The lines of a text, each with its end; and what comes behind the last end. -/
def linesA (s : ByteArray) : List ByteArray := Lib.splitB ⟨#[10]⟩ 1 (Lib.countB s ⟨#[10]⟩) s
def Boxes (bsep bs bn : Nat) (s : ByteArray) (W : World) : Prop := W.heap[bsep]? = some (.cells #[.string ⟨#[10]⟩] 9 (0, 0)) ∧ W.heap[bs]? = some (.cells #[.string s] 9 (0, 0)) ∧ W.heap[bn]? = some (.cells #[.int .i64 1] 3 (0, 0))
def KpB (bsep bs bn : Nat) (W W' : World) : Prop := W'.heap[bsep]? = W.heap[bsep]? ∧ W'.heap[bs]? = W.heap[bs]? ∧ W'.heap[bn]? = W.heap[bn]?
theorem Boxes.keep {bsep bs bn : Nat} {s : ByteArray} {W W' : World} (h : Boxes bsep bs bn s W) (k : KpB bsep bs bn W W') : Boxes bsep bs bn s W' := ⟨k.1.trans h.1, k.2.1.trans h.2.1, k.2.2.trans h.2.2⟩
theorem Boxes.turn {bsep bs bn : Nat} {s s' : ByteArray} {W W' : World} (h : Boxes bsep bs bn s W) (h1 : bsep ≠ bs) (h2 : bn ≠ bs) (k : Turn bs W W') (e : W'.heap[bs]? = some (.cells #[.string s'] 9 (0, 0))) : Boxes bsep bs bn s' W' :=
  ⟨(k.2 _ h1).trans h.1, e, (k.2 _ h2).trans h.2.2⟩

theorem iter_own (txt : ByteArray) (hz : txt.size ≤ 1048576) {bsep bs bn : Nat} (h1 : bsep ≠ bs) (h2 : bn ≠ bs) :
    SeqOwn Tryz.prog 263 #[.pointer (some ⟨bsep, 0, none⟩), .pointer (some ⟨bs, 0, none⟩), .pointer (some ⟨bn, 0, none⟩)] bs (KpB bsep bs bn) (Boxes bsep bs bn txt) (linesA txt) := by
  intro l J W hB hJs hY h0
  refine callsIn_wide.2 ?_
  refine enter (vs := [.func (.yield l) #[] #[], .pointer (some ⟨bsep, 0, none⟩), .pointer (some ⟨bs, 0, none⟩), .pointer (some ⟨bn, 0, none⟩)]) Tryz.func263 rfl Tryz.ntmps263 (Nat.le_of_ble_eq_true rfl) ?_
  intro a0 hE0
  refine wp_seq (wp_seq (wp_region_lit ?_))
  refine st_val hE0 (y_box hE0 rfl hB.1 (by kernel_rfl)) rfl fun a1 hE1 => st_val hE1 (y_len_string hE1 rfl Tryz.underlying9) rfl fun a2 hE2 => st_val hE2 (y_eql hE2 rfl rfl) rfl fun a3 hE3 => wpList_nil ?_
  refine then_normal ?_
  refine cond_split hE3 rfl (fun hb => absurd hb (by decide)) (fun _ => ?_)
  refine wp_skip ?_
  refine then_normal ?_
  refine wp_seq (wp_block (wp_loop_ghost (fun k a w2 => ∃ (cur : ByteArray) (pre : List ByteArray), Lib.countB cur ⟨#[10]⟩ = k ∧ pre ++ Lib.splitB ⟨#[10]⟩ 1 k cur = linesA txt ∧ cur.size ≤ 1048576 ∧ Env 52 [(0, .func (.yield l) #[] #[]), (1, .pointer (some ⟨bsep, 0, none⟩)), (2, .pointer (some ⟨bs, 0, none⟩)), (3, .pointer (some ⟨bn, 0, none⟩))] a ∧ Boxes bsep bs bn cur w2 ∧ J pre w2) (Lib.countB txt ⟨#[10]⟩) ⟨txt, [], rfl, rfl, hz, hE3.weaken ⟨rfl, rfl, rfl, rfl, trivial⟩, hB, h0⟩ ?_))
  rintro k a4 w4 ⟨cur, pre, hk, hp, hc, hE4, hB4, hJ4⟩
  refine wp_block (wp_seq (wp_region_lit ?_))
  refine st_val hE4 (y_box hE4 rfl hB4.2.1 (by kernel_rfl)) rfl fun a5 hE5 => st_val hE5 (y_box hE5 rfl hB4.1 (by kernel_rfl)) rfl fun a6 hE6 => st_call hE6 Tryz.func265 (by kernel_rfl) (by kernel_rfl) (vs := [.string cur, .string ⟨#[10]⟩]) rfl (Tryz.strings_Index_one cur 10 w4) rfl (fun _ _ h => ⟨_, h.1⟩) fun v w5 h5 a7 hE7 => ?_
  obtain ⟨h5, rfl⟩ := h5
  obtain rfl : v = .int .i64 (Lib.indexB cur ⟨#[10]⟩) := by
    injection h5 with h5
    rw [h5]
    show _ = Value.int .i64 (Lib.index cur.data.toList [10])
    rw [Lib.index_one]
  refine st_val hE7 (y_assign hE7 rfl) rfl fun a8 hE8 => wpList_nil ?_
  refine then_normal ?_
  refine wp_seq (wp_seq (wp_region_lit ?_))
  refine st_val hE8 (y_move hE8 rfl) rfl fun a9 hE9 => st_val hE9 (y_lss hE9 rfl rfl) rfl fun a10 hE10 => wpList_nil ?_
  refine then_normal ?_
  refine cond_split hE10 rfl (fun hb => ?_) (fun hb => ?_)
  · have hneg := of_decide_eq_true hb
    have hm : Lib.indexB cur ⟨#[10]⟩ = -1 := by
      rcases Lib.indexB_cases cur ⟨#[10]⟩ with h | ⟨i, h, _⟩
      · exact h
      · omega
    refine wp_exit ?_
    refine then_exit ?_
    refine blk_pass rfl ?_
    refine then_exit ?_
    refine blk_exit ?_
    refine then_normal ?_
    refine (wpIn_wide (n := 0)).1 (wpIn_region_lit ?_)
    refine stI_val hE10 (y_move hE10 rfl) (by intro c h; cases h) rfl fun a11 hE11 => stI_val hE11 (y_box hE11 rfl hB4.2.1 (by kernel_rfl)) (by intro c h; cases h) rfl fun a12 hE12 => ?_
    refine stI_yield hE12 (vs := [.string cur]) rfl rfl (hY pre cur w5 ⟨[], by rw [List.append_nil, ← hp, Lib.splitB_miss _ _ _ _ hm]⟩ hJ4) rfl (fun e w' h => ⟨_, h.1⟩) fun v w6 h a13 hE13 => wpListIn_nil ?_
    have hx : pre ++ [cur] = linesA txt := by rw [← hp, Lib.splitB_miss _ _ _ _ hm]
    exact ⟨hE13.defers, .tuple #[], results_none rfl _ _ _, ⟨_, rfl⟩, hx ▸ h.2.1⟩
  · have hpos := of_decide_eq_false hb
    obtain ⟨i, hi, hroom⟩ : ∃ i : Nat, Lib.indexB cur ⟨#[10]⟩ = i ∧ i + 1 ≤ cur.size := by
      rcases Lib.indexB_cases cur ⟨#[10]⟩ with h | h
      · omega
      · exact h
    rw [hi] at hE10
    have hcnt := Lib.countB_hit cur ⟨#[10]⟩ i (Nat.le_refl _) hi
    have hc1 : Lib.countB (cur.extract (i + 1) cur.size) ⟨#[10]⟩ + 1 = k := by rw [← hk, hcnt]; exact Nat.add_comm _ _
    have hp2 : (pre ++ [cur.extract 0 (i + 1)]) ++ Lib.splitB ⟨#[10]⟩ 1 (Lib.countB (cur.extract (i + 1) cur.size) ⟨#[10]⟩) (cur.extract (i + 1) cur.size) = linesA txt := by
      rw [← hp, ← hc1, Lib.splitB_hit _ _ _ _ i hi, List.append_assoc]
      rfl
    have hpre : (pre ++ [cur.extract 0 (i + 1)]) <+: linesA txt := ⟨_, hp2⟩
    refine wp_skip ?_
    refine then_normal ?_
    refine wp_seq (wp_region_lit ?_)
    refine st_val hE10 (y_box hE10 rfl hB4.2.1 (by kernel_rfl)) rfl fun a11 hE11 => st_val hE11 (y_move hE11 rfl) rfl fun a12 hE12 => st_val hE12 (y_box hE12 rfl hB4.2.2 (by kernel_rfl)) rfl fun a13 hE13 => st_val hE13 (y_add_in hE13 rfl rfl (m := ((i + 1 : Nat) : Int)) (by omega) (by omega) (by omega)) rfl fun a14 hE14 => st_val hE14 (y_cutHi hE14 rfl rfl rfl hroom Tryz.underlying9) rfl fun a15 hE15 => st_val hE15 (y_assign hE15 rfl) rfl fun a16 hE16 => wpList_nil ?_
    refine then_normal ?_
    refine wp_seq (wp_seq ((wpIn_wide (n := 0)).1 (wpIn_region_lit ?_)))
    refine stI_val hE16 (y_move hE16 rfl) (by intro c h; cases h) rfl fun a17 hE17 => stI_val hE17 (y_move hE17 rfl) (by intro c h; cases h) rfl fun a18 hE18 => ?_
    refine stI_yield hE18 (vs := [.string (cur.extract 0 (i + 1))]) rfl rfl (hY pre _ w5 hpre hJ4) rfl (fun e w' h => ⟨_, h.1⟩) fun v w6 h a19 hE19 => ?_
    obtain ⟨hv, hJ6, hK6⟩ := h
    obtain rfl : v = .bool true := by injection hv
    have hB6 := hB4.keep hK6
    refine stI_val hE19 (y_not hE19 rfl) (by intro c h; cases h) rfl fun a20 hE20 => wpListIn_nil ?_
    refine then_normal ?_
    refine cond_split hE20 rfl (fun hb => absurd hb (by decide)) (fun _ => ?_)
    refine wp_skip ?_
    refine then_normal ?_
    refine wp_region_lit ?_
    refine st_val hE20 (y_box hE20 rfl hB6.2.1 (by kernel_rfl)) rfl fun a21 hE21 => st_val hE21 (y_move hE21 rfl) rfl fun a22 hE22 => st_val hE22 (y_box hE22 rfl hB6.1 (by kernel_rfl)) rfl fun a23 hE23 => st_val hE23 (y_len_string hE23 rfl Tryz.underlying9) rfl fun a24 hE24 => st_val hE24 (y_add_in hE24 rfl rfl (m := ((i + 1 : Nat) : Int)) (show (i : Int) + 1 = _ by omega) (by omega) (by omega)) rfl fun a25 hE25 => st_val hE25 (y_cutLo hE25 rfl rfl rfl hroom Tryz.underlying9) rfl fun a26 hE26 => ?_
    refine st_cellB hE26 rfl rfl hB6.2.1 rfl Tryz.sizeOf9 rfl fun w7 ht hrow a27 hE27 => wpList_nil ?_
    refine ⟨Lib.countB (cur.extract (i + 1) cur.size) ⟨#[10]⟩, by omega, cur.extract (i + 1) cur.size, pre ++ [cur.extract 0 (i + 1)], rfl, ?_, ?_, hE27.weaken ⟨rfl, rfl, rfl, rfl, trivial⟩, hB6.turn h1 h2 ht hrow, hJs _ _ _ hJ6 ht⟩
    · exact hp2
    · rw [ByteArray.size_extract]
      omega
end Go.Proofs.YtppialklomgajaaGreatDoor.Fw

/-
  impl.LinesIn: the lines of a text that have an end, by a range over strings.SplitAfterSeq. No condition.
-/
namespace Go.Proofs.YtppialklomgajaaGreatDoor.Fw
open Go.RowKit
set_option linter.unusedVariables false
set_option maxRecDepth 100000

/-! ## The iterator is made -/
theorem c_splitSeq (s : ByteArray) (w : World) : Calls Tryz.prog 240 ([.string s, .string ⟨#[10]⟩, .int .i64 1] : List Value).toArray w (fun e w' => ∃ b1 b2 b3,
    e = .returned (.func (.func 263) #[] #[.pointer (some ⟨b1, 0, none⟩), .pointer (some ⟨b2, 0, none⟩), .pointer (some ⟨b3, 0, none⟩)]) ∧ b1 ≠ b2 ∧ b3 ≠ b2 ∧
    (∀ b, b = b1 ∨ b = b2 ∨ b = b3 → w.heap.size ≤ b ∧ b < w'.heap.size) ∧ Boxes b1 b2 b3 s w' ∧ Below w.heap.size w w') := by
  refine enter Tryz.func240 rfl Tryz.ntmps240 (Nat.le_of_ble_eq_true rfl) ?_
  intro a0 hE0
  have hS0 := SH.start w
  refine wp_seq (wp_region_lit ?_)
  refine st_box hE0 hS0 (cs := [.string s]) rfl rfl rfl fun b2 w1 hS1 a1 hE1 => ?_
  refine st_box hE1 hS1 (cs := [.string ⟨#[10]⟩]) rfl rfl rfl fun b1 w2 hS2 a2 hE2 => ?_
  refine st_box hE2 hS2 (cs := [.int .i64 1]) rfl rfl rfl fun b3 w3 hS3 a3 hE3 => ?_
  refine st_val hE3 (y_assign hE3 rfl) rfl fun a4 hE4 => wpList_nil ?_
  refine then_normal ?_
  refine wp_seq (wp_region_lit ?_)
  refine st_val hE4 (y_makeFunc hE4 (vs := [.pointer (some ((⟨b1, 0, none⟩ : Addr).add 0)), .pointer (some ((⟨b2, 0, none⟩ : Addr).add 0)), .pointer (some ((⟨b3, 0, none⟩ : Addr).add 0))]) rfl) rfl fun a5 hE5 => st_val hE5 (y_assign hE5 rfl) rfl fun a6 hE6 => wpList_nil ?_
  refine then_normal ?_
  refine wp_ret ?_
  refine fin1 hE6 rfl rfl ?_
  have hap := hS3.apart
  simp only [List.flatMap_cons, List.flatMap_nil, Ck.var, List.append_nil, List.cons_append, List.nil_append, List.nodup_cons, List.mem_cons, List.not_mem_nil, or_false, not_or] at hap
  have hge := hS3.ge
  have g3 := hge _ (List.mem_cons_self) b3 (by simp [Ck.var])
  have g1 := hge _ (List.mem_cons_of_mem _ List.mem_cons_self) b1 (by simp [Ck.var])
  have g2 := hge _ (List.mem_cons_of_mem _ (List.mem_cons_of_mem _ List.mem_cons_self)) b2 (by simp [Ck.var])
  refine ⟨b1, b2, b3, by simp only [Addr.add_zero'], hap.2.1, hap.1.2, ?_, ⟨hS3.get (k := 1) rfl, hS3.get (k := 2) rfl, hS3.get (k := 0) rfl⟩, hS3.below⟩
  have q := fun b (h : ¬ Old w b) => Nat.le_of_not_lt h
  rintro b (rfl | rfl | rfl)
  · exact ⟨q _ g1.1, g1.2⟩
  · exact ⟨q _ g2.1, g2.2⟩
  · exact ⟨q _ g3.1, g3.2⟩
theorem c_SplitAfterSeq (s : ByteArray) (w : World) : Calls Tryz.prog 215 ([.string s, .string ⟨#[10]⟩] : List Value).toArray w (fun e w' => ∃ b1 b2 b3,
    e = .returned (.func (.func 263) #[] #[.pointer (some ⟨b1, 0, none⟩), .pointer (some ⟨b2, 0, none⟩), .pointer (some ⟨b3, 0, none⟩)]) ∧ b1 ≠ b2 ∧ b3 ≠ b2 ∧
    (∀ b, b = b1 ∨ b = b2 ∨ b = b3 → w.heap.size ≤ b ∧ b < w'.heap.size) ∧ Boxes b1 b2 b3 s w' ∧ Below w.heap.size w w') := by
  refine enter Tryz.func215 rfl Tryz.ntmps215 (Nat.le_of_ble_eq_true rfl) ?_
  intro a0 hE0
  refine wp_seq (wp_region_lit ?_)
  refine st_val hE0 (y_assign hE0 rfl) rfl fun a1 hE1 => wpList_nil ?_
  refine then_normal ?_
  refine wp_seq (wp_region_lit ?_)
  refine st_val hE1 (y_move hE1 rfl) rfl fun a2 hE2 => st_val hE2 (y_move hE2 rfl) rfl fun a3 hE3 => st_val hE3 (y_move hE3 rfl) rfl fun a4 hE4 => st_val hE4 (y_len_string hE4 rfl Tryz.underlying9) rfl fun a5 hE5 => ?_
  refine st_call hE5 Tryz.func240 (by kernel_rfl) (by kernel_rfl) (vs := [.string s, .string ⟨#[10]⟩, .int .i64 1]) rfl (c_splitSeq s w) rfl (fun _ _ ⟨_, _, _, h, _⟩ => ⟨_, h⟩) fun v w2 h2 a6 hE6 => ?_
  obtain ⟨b1, b2, b3, hv, h⟩ := h2
  injection hv with hv
  subst hv
  refine st_val hE6 (y_assign hE6 rfl) rfl fun a7 hE7 => wpList_nil ?_
  refine then_normal ?_
  refine wp_ret ?_
  refine fin1 hE7 rfl rfl ?_
  exact ⟨b1, b2, b3, rfl, h⟩

/-! ## The lines -/
def keepL (xs : List ByteArray) : List ByteArray := xs.filter fun x => Lib.hasSuffix x.data.toList [10]
theorem keepL_snoc (xs : List ByteArray) (x : ByteArray) : keepL (xs ++ [x]) = bif Lib.hasSuffix x.data.toList [10] then keepL xs ++ [x] else keepL xs := by
  unfold keepL
  rw [List.filter_append]
  cases h : Lib.hasSuffix x.data.toList [10]
  · rw [List.filter_cons_of_neg (by rw [h]; decide), List.filter_nil, List.append_nil]
    rfl
  · rw [List.filter_cons_of_pos (by exact h), List.filter_nil]
    rfl
def LInv (w0 : World) (B0 o b1 b2 b3 : Nat) (pre : List ByteArray) (W : World) : Prop :=
  ∃ v F, W.heap[o]? = some (.cells #[v] 30 (0, 0)) ∧ SlO W v (keepL pre) F ∧ F.Nodup ∧ (∀ b ∈ F, w0.heap.size ≤ b ∧ b ≠ o ∧ b ≠ b1 ∧ b ≠ b2 ∧ b ≠ b3) ∧ B0 ≤ W.heap.size ∧ Below w0.heap.size w0 W
theorem LInv.cells {w0 : World} {B0 o b1 b2 b3 : Nat} {pre : List ByteArray} {W W' : World} (h : LInv w0 B0 o b1 b2 b3 pre W) (hk : ∀ b arr T fz, W.heap[b]? = some (.cells arr T fz) → b ≠ b2 → W'.heap[b]? = W.heap[b]?) (ho : o ≠ b2) (hsz : W.heap.size ≤ W'.heap.size) (hB : Below w0.heap.size w0 W') : LInv w0 B0 o b1 b2 b3 pre W' := by
  obtain ⟨v, F, h1, h2, h3, h4, h0, h5⟩ := h
  refine ⟨v, F, (hk _ _ _ _ h1 ho).trans h1, h2.same fun b hb => ?_, h3, h4, Nat.le_trans h0 hsz, hB⟩
  obtain ⟨arr, T, fz, hc⟩ := h2.oneB b hb
  exact hk b arr T fz hc (h4 b hb).2.2.2.1
theorem linesA_len (s : ByteArray) : (linesA s).length ≤ s.size + 1 := by
  have := Lib.countB_le ⟨#[10]⟩ (Nat.le_refl _) s.size s (Nat.le_refl _)
  unfold linesA
  rw [Lib.splitB_all ⟨#[10]⟩ (Nat.le_refl _) 1 _ s rfl]
  omega
theorem splitA_sizes (sep : ByteArray) : ∀ (k : Nat) (s : ByteArray), ∀ x ∈ Lib.splitB sep 1 k s, x.size ≤ s.size
  | 0, s => fun x hx => by
    obtain rfl := List.mem_singleton.1 hx
    exact Nat.le_refl _
  | k + 1, s => fun x hx => by
    rcases Lib.indexB_cases s sep with h | ⟨i, h, _⟩
    · rw [Lib.splitB_miss sep 1 (k + 1) s h] at hx
      obtain rfl := List.mem_singleton.1 hx
      exact Nat.le_refl _
    · rw [Lib.splitB_hit sep 1 k s i h] at hx
      rcases List.mem_cons.1 hx with rfl | hx
      · rw [ByteArray.size_extract]
        omega
      · have := splitA_sizes sep k _ x hx
        rw [ByteArray.size_extract] at this
        omega
theorem sl_strs : chkSlice Tryz.prog 30 9 1 16 = true := by kernel_rfl
theorem c_LinesIn (txt : ByteArray) (hz : txt.size ≤ 1048576) (w : World) : Calls Tryz.prog 161 ([.string txt] : List Value).toArray w (fun e w' => ∃ v F, e = .returned v ∧ SlO w' v (keepL (linesA txt)) F ∧ F.Nodup ∧ (∀ b ∈ F, w.heap.size ≤ b) ∧ Below w.heap.size w w') := by
  refine enterM Tryz.func161 rfl Tryz.ntmps161 (Nat.le_of_ble_eq_true rfl) ?_
  intro a0 hE0
  have hS0 := SH.start w
  refine wp_seq (wp_region_lit ?_)
  refine st_val hE0 (y_assign hE0 rfl) rfl fun a1 hE1 => wpList_nil ?_
  refine then_normal ?_
  refine wp_seq (wp_region_lit ?_)
  refine st_alloc hE1 hS0 (cs := [.slice none 0 0]) Tryz.zeroValue30 rfl rfl fun o w1 hS1 a2 hE2 => wpList_nil ?_
  have ho : w.heap.size ≤ o ∧ o < w1.heap.size := by
    have := hS1.ge _ (List.mem_cons_self) o (by simp [Ck.var])
    exact ⟨Nat.le_of_not_lt this.1, this.2⟩
  have hcell := hS1.get (k := 0) rfl
  have hB1 := hS1.below
  rw [Addr.add_zero'] at hE2
  refine then_normal ?_
  refine wp_seq (wp_seq (wp_region_lit ?_))
  refine st_val hE2 (y_move hE2 rfl) rfl fun a3 hE3 => ?_
  refine st_call hE3 Tryz.func215 (by kernel_rfl) (by kernel_rfl) (vs := [.string txt, .string ⟨#[10]⟩]) rfl (c_SplitAfterSeq txt w1) rfl (fun _ _ ⟨_, _, _, h, _⟩ => ⟨_, h⟩) fun v w2 h2 a4 hE4 => wpList_nil ?_
  obtain ⟨b1, b2, b3, hv, h12, h32, hge, hBx, hB2⟩ := h2
  injection hv with hv
  subst hv
  have g1 := hge b1 (.inl rfl)
  have g2 := hge b2 (.inr (.inl rfl))
  have g3 := hge b3 (.inr (.inr rfl))
  have hB02 : Below w.heap.size w w2 := hB1.trans (hB2.mono hB1.size)
  refine then_normal ?_
  refine wp_block ?_
  have hI0 : LInv w w2.heap.size o b1 b2 b3 [] w2 := ⟨.slice none 0 0, [], (hB2.block o ho.2).trans hcell, .inl ⟨rfl, rfl, rfl⟩, List.nodup_nil, fun b hb => (by cases hb), Nat.le_refl _, hB02⟩
  refine wp_rangeOwn (hE4.eval (x := .tmp 6) rfl) (enters_of Tryz.func263 (by kernel_rfl) rfl) (bs := b2) g2.2 (iter_own txt hz h12 h32) (fun u u' => ?_) (fun h k => ⟨k.1.trans h.1, k.2.1.trans h.2.1, k.2.2.trans h.2.2⟩) (fun W l o' hl => ?_) (LInv w w2.heap.size o b1 b2 b3) ?_ ?_ hI0
    (fun x => ((bare a4).put (some 7) (.string x)).put (some 4) (.string x)) ?_ ?_ ?_
  · have hk : ∀ b, b < w2.heap.size → ((w2.alloc u).alloc u').heap[b]? = w2.heap[b]? := fun b hb => (Below.heap_alloc _ _ _ (by rw [World.size_alloc]; omega)).trans (Below.heap_alloc _ _ _ hb)
    exact ⟨(hk _ g1.2).trans hBx.1, (hk _ g2.2).trans hBx.2.1, (hk _ g3.2).trans hBx.2.2⟩
  · exact ⟨World.putObj_heap_other (by omega), World.putObj_heap_other (by omega), World.putObj_heap_other (by omega)⟩
  · intro pre W W' row hi hg hr
    have hB := ownFrom_below (β := List ByteArray) (n₀ := w.heap.size) (B := w2.heap.size) (w₀ := w) (Nat.le_refl _) hB02.size pre W W' row hi.choose_spec.choose_spec.2.2.2.2.2 hg hr
    refine hi.cells (fun b arr T fz hc _ => hg.block b (Array.getElem?_eq_some_iff.1 hc).1 fun e => ?_) (by omega) hg.size hB
    obtain ⟨_, o', ho', hn⟩ := hr b e.symm
    rw [hc] at ho'
    cases ho'
    cases hn
  · intro pre W W2 hi ht
    exact hi.cells (fun b arr T fz _ hne => ht.2 b hne) (by omega) (Nat.le_of_eq ht.1.2.2.2.symm) (ht.below (by omega) hi.choose_spec.choose_spec.2.2.2.2.2)
  · intro l x W K hK
    have hE5 : Env 15 _ ((bare a4).put (some 7) (.string x)) := (show Env 15 _ (bare a4) from ⟨hE4.size, rfl, hE4.get⟩).put (d := 7) rfl (.string x)
    refine wpIn_regionOf (fun ⟨_, _, h⟩ => h) rfl ?_
    refine wpList_plain rfl fun K' hK' => ?_
    unfold Oper.wp
    rw [(y_assign (P := Tryz.prog) (w := W) (ty := 9) hE5 (x := .tmp 7) (v := .string x) rfl : Yields _ _ _ _ _ _)]
    exact hK' _ _ (wpList_nil hK)
  · intro l pre x W hp hi
    obtain ⟨v, F, hc, hs, hnd, hF, hbx, hB⟩ := hi
    have hE5 : Env 15 _ (((bare a4).put (some 7) (.string x)).put (some 4) (.string x)) := ((show Env 15 _ (bare a4) from ⟨hE4.size, rfl, hE4.get⟩).put (d := 7) rfl (.string x)).put (d := 4) rfl (.string x)
    generalize ((bare a4).put (some 7) (.string x)).put (some 4) (.string x) = a5 at hE5 ⊢
    have hx : x.size ≤ txt.size := splitA_sizes _ _ _ _ (hp.subset (by simp))
    have hl : pre.length + 1 ≤ txt.size + 1 := by
      have := hp.length_le
      have h2 := linesA_len txt
      rw [List.length_append, List.length_singleton] at this
      omega
    have hkl : (keepL pre).length ≤ pre.length := List.length_filter_le _ _
    refine wpIn_block (wpIn_seq (wpIn_regionOf (fun ⟨_, _, h⟩ => h) rfl ?_))
    refine st_val hE5 (y_move hE5 rfl) rfl fun a6 hE6 => ?_
    refine st_call hE6 Tryz.func216 (by kernel_rfl) (by kernel_rfl) (vs := [.string x, .string ⟨#[10]⟩]) rfl (Tryz.strings_HasSuffix x ⟨#[10]⟩ W (by omega)) rfl (fun _ _ h => ⟨_, h.1⟩) fun v2 W2 h2 a7 hE7 => wpList_nil ?_
    obtain ⟨h2, rfl⟩ := h2
    injection h2 with h2
    subst h2
    refine then_normal ?_
    have hks := keepL_snoc pre x
    refine wpIn_cond_split (hE7.eval rfl) (fun hb => ?_) (fun hb => ?_)
    · have hks : keepL (pre ++ [x]) = keepL pre ++ [x] := by rw [hks, show Lib.hasSuffix x.data.toList [10] = true from hb]; rfl
      have hfr := hs.form
      obtain ⟨A, cap, rfl, hcap⟩ := hfr
      have hS : SH (Off [Ck.own (α := List ByteArray) [.slice A (keepL pre).length cap] (keepL pre) F] W2) W2 W2 [Ck.own (α := List ByteArray) [.slice A (keepL pre).length cap] (keepL pre) F] :=
        ⟨Keep.refl _ _, fun b hb => hb.1, fun c hc w' hsm => by
            obtain rfl := List.mem_singleton.1 hc
            exact ⟨_, rfl, hs.same hsm⟩,
          fun c hc b hb => by
            obtain rfl := List.mem_singleton.1 hc
            exact ⟨fun ho => ho.2 (List.mem_flatMap.2 ⟨_, List.mem_singleton_self _, hb⟩), hs.lt b hb⟩,
          by rw [List.flatMap_cons, List.flatMap_nil, List.append_nil]; exact hnd⟩
      refine wpIn_regionOf (fun ⟨_, _, h⟩ => h) rfl ?_
      refine st_val hE7 (y_box hE7 rfl hc (by kernel_rfl)) rfl fun a8 hE8 => st_val hE8 (y_move hE8 rfl) rfl fun a9 hE9 => ?_
      refine st_lit (is := [0]) (vs := [.string x]) (cs := [.string x]) (e := 9) hE9 hS rfl rfl (by kernel_rfl) rfl fun b21 w21 hS21 a22 hE22 => ?_
      refine st_append (α := ByteArray) (ys := [x]) (k := 1) hE22 hS21 sl_strs Tryz.zeroValue9 rfl rfl rfl rfl (hS21.src (k := 0) rfl 1 1) rfl (oneCell_of_cells.2 rfl) (fun i u h => match i, u, h with | 0, _, h => (by cases h; exact ⟨⟨rfl, (by show x.size ≤ maxLen; unfold maxLen; omega)⟩, rfl⟩) | j + 1, _, h => (by simp at h)) (by simp only [List.length_cons, List.length_nil]; omega) (by simp only [List.length_cons, List.length_nil]; omega) rfl fun A23 cp23 F23 w23 hS23 a24 hE24 => ?_
      have hoff : ∀ k, k < W2.heap.size → k ∉ F → w23.heap[k]? = W2.heap[k]? := fun k hk hn => hS23.keep.block k ⟨hk, by rw [List.flatMap_cons, List.flatMap_nil, List.append_nil]; exact hn⟩
      have hge2 := fun b hb => hS23.ge _ (List.mem_cons_of_mem _ List.mem_cons_self) b hb
      have hnd2 : F23.Nodup := hS23.nd (k := 1) rfl
      have hs23 := hS23.slO (k := 1) rfl
      have hnew : ∀ b ∈ F23, b ∈ F ∨ W2.heap.size ≤ b := fun b hb => by
        have hno := (hge2 b hb).1
        by_cases hbF : b ∈ F
        · exact .inl hbF
        · refine .inr (Nat.le_of_not_lt fun hlt => hno ⟨hlt, ?_⟩)
          rw [List.flatMap_cons, List.flatMap_nil, List.append_nil]
          exact hbF
      have lt_o : o < W2.heap.size := (Array.getElem?_eq_some_iff.1 hc).1
      have hoF : o ∉ F := fun h => (hF o h).2.1 rfl
      refine st_cellB hE24 rfl rfl ((hoff o lt_o hoF).trans hc) rfl Tryz.sizeOf30 rfl fun w25 ht hrow a27 hE27 => wpList_nil ?_
      have hF23 : ∀ b ∈ F23, w.heap.size ≤ b ∧ b ≠ o ∧ b ≠ b1 ∧ b ≠ b2 ∧ b ≠ b3 := fun b hb => by
        rcases hnew b hb with h | h
        · exact hF b h
        · exact ⟨by omega, by omega, by omega, by omega, by omega⟩
      have hall : ∀ k, k < W2.heap.size → k ∉ F → k ≠ o → w25.heap[k]? = W2.heap[k]? := fun k hk hn hne => (ht.2 k hne).trans (hoff k hk hn)
      refine ⟨⟨?_, ?_⟩, ⟨?_, ?_, ?_⟩, ?_⟩
      · rw [ht.1.2.2.2]; exact hS23.keep.size
      · intro k o' hk hno
        have hlt := (Array.getElem?_eq_some_iff.1 hk).1
        refine (hall k hlt (fun h => ?_) (fun e => ?_)).trans hk
        · obtain ⟨arr, T, fz, hcc⟩ := hs.oneB k h
          rw [hcc] at hk
          cases hk
          cases hno
        · subst e
          rw [hc] at hk
          cases hk
          cases hno
      · exact hall b1 (by omega) (fun h => (hF b1 h).2.2.1 rfl) (by omega)
      · exact hall b2 (by omega) (fun h => (hF b2 h).2.2.2.1 rfl) (by omega)
      · exact hall b3 (by omega) (fun h => (hF b3 h).2.2.2.2 rfl) (by omega)
      · unfold LInv
        rw [hks]
        refine ⟨_, F23, hrow, hs23.same fun b hb => ht.2 b (hF23 b hb).2.1, hnd2, hF23, by rw [ht.1.2.2.2]; exact Nat.le_trans hbx hS23.keep.size, ht.below ho.1 (hB.trans ⟨hS23.keep.os, hS23.keep.tape, hS23.keep.output, hS23.keep.size, fun k hk => hoff k (by have := hB.size; omega) fun h => by have := (hF k h).1; omega⟩)⟩
    · have hks : keepL (pre ++ [x]) = keepL pre := by rw [hks, show Lib.hasSuffix x.data.toList [10] = false from hb]; rfl
      refine wpIn_skip ?_
      exact ⟨KeepsOthers.refl _, ⟨rfl, rfl, rfl⟩, by unfold LInv; rw [hks]; exact ⟨v, F, hc, hs, hnd, hF, hbx, hB⟩⟩
  · intro D W hD hi hK
    obtain ⟨v, F, hc, hs, hnd, hF, hbx, hB⟩ := hi
    refine blk_normal (then_normal ?_)
    refine wp_seq (wp_region_lit ?_)
    have hE5 : Env 15 _ (bare { a4 with defers := { target := .collected D, args := #[] } :: a4.defers }) := ⟨hE4.size, rfl, hE4.get⟩
    refine stD_val hE5 (y_box hE5 rfl hc (by kernel_rfl)) rfl fun a6 hd6 hE6 => stD_val hE6 (y_assign hE6 rfl) rfl fun a7 hd7 hE7 => wpList_nil ?_
    refine then_normal ?_
    refine wp_ret ?_
    have hdf : a7.defers = [{ target := .collected D, args := #[] }] := by rw [hd7, hd6]; show _ :: a4.defers = _; rw [hE4.defers]
    show LeavesInM _ _ _ _ a7.tmps _ a7.defers _ W
    rw [hdf]
    refine ⟨by simp, .inl ⟨_, _, rfl, run_takeDeferred hK, ?_⟩⟩
    refine ⟨v, ?_, v, F, rfl, ?_, hnd, fun b hb => (hF b hb).1, ?_⟩
    · rw [results_tmp rfl, show a7.tmps.getD 2 undef = v from hE7.get 2 v rfl]
    · refine hs.same fun b hb => World.putObj_heap_other fun e => ?_
      obtain ⟨arr, T, fz, hcc⟩ := hs.oneB b hb
      rw [e, hK] at hcc
      cases hcc
    · exact hB.grown (grownBy_putObj' W D _) hB.size fun k e => by cases e; have := hB02.size; omega
theorem keepL_len (s : ByteArray) : (keepL (linesA s)).length ≤ s.size + 1 := Nat.le_trans (List.length_filter_le _ _) (linesA_len s)
def LinesIn (s : ByteArray) : List ByteArray := keepL (linesA s)
end Go.Proofs.YtppialklomgajaaGreatDoor.Fw

/-
  impl.LinesIn, for the abstract machine. No condition.
-/
namespace Go.Proofs.YtppialklomgajaaGreatDoor.Fw
open Go.RowKit
set_option linter.unusedVariables false

theorem k_LinesIn (s : ByteArray) (hz : s.size ≤ 1048576) : CTs 161 [.o (.c (.string s))] [.sl ByteArray instDatByteArray (LinesIn s)] := fun w vs hG hA => by
  obtain rfl := argsC (us := [.string s]) hA
  refine (c_LinesIn s hz w).mono fun e w2 h => ?_
  obtain ⟨v, F, rfl, h1, h2, h3, hB⟩ := h
  refine ⟨v, rfl, Keep.of_below hB fun _ h => h, [v], F ++ [], rfl, ⟨F, [], rfl, h1, rfl⟩, by rw [List.append_nil]; exact h2, fun b hb => ?_⟩
  rw [List.append_nil] at hb
  have := h3 b hb
  show ¬ b < w.heap.size
  omega
end Go.Proofs.YtppialklomgajaaGreatDoor.Fw

/- Contracts: each call returns what the model says. By program (wip/am/gen2.py). -/
namespace Go.Proofs.YtppialklomgajaaGreatDoor.Fw
open Go.RowKit
set_option linter.unusedVariables false
set_option linter.unusedSimpArgs false
set_option maxRecDepth 100000

/- F149 loop.example/g00974/spec.LinesIn -/
def spec_LinesIn_l1 (p0 : ByteArray) : Nat → (List ByteArray) → Int → Nat → (List ByteArray)
  | 0, v3, v4, i => v3
  | n + 1, v3, v4, i => spec_LinesIn_l1 p0 n (bif (decide (((byteAt p0 i).toNat : Int) = 10)) then (v3 ++ [cutS p0 v4.toNat (i + 1)]) else v3) (bif (decide (((byteAt p0 i).toNat : Int) = 10)) then ((i + 1 : Nat) : Int) else v4) (i + 1)
def spec_LinesIn (p0 : ByteArray) : (List ByteArray) := spec_LinesIn_l1 p0 (p0.size - 0) ([] : List ByteArray) 0 0
theorem c_spec_LinesIn (p0 : ByteArray) (hz_p0 : p0.size ≤ 9223372036854775807) (hq : p0.size ≤ 1048576) : CTs 149 [.o (.c (.string p0))] [Re.sl ByteArray instDatByteArray (spec_LinesIn p0)] := by
  refine en Tryz.func149 Tryz.ntmps149 fun w hG hgd => ?_
  have hM := spec_LinesIn.eq_1 p0
  refine ad 6 ?_
  refine op (l0) ?_
  refine ad 12 ?_
  refine li 0 (d := instDatByteArray) ([] : List ByteArray) ?_
  refine Run.loopM (ι := (List ByteArray) × Int × Nat) (fun s => spec_LinesIn_l1 p0 (p0.size - s.2.2) s.1 s.2.1 s.2.2) (fun s => ⟨28, 1, [(0, .v (.string p0)), (3, .sl 0 s.1.length), (4, .v (.int .i64 s.2.1)), (5, .v (.int .i64 (s.2.2 : Int)))], [(0, .own ByteArray instDatByteArray s.1)]⟩) (fun s => s.2.2 ≤ p0.size ∧ 0 ≤ s.2.1 ∧ s.2.1 ≤ (s.2.2 : Int) ∧ s.1.length ≤ s.2.2) (fun s => p0.size - s.2.2) (([] : List ByteArray), 0, 0) [0] [0] hM (by exact ⟨by (try dsimp only); omega, by (try dsimp only); omega, by (try dsimp only); omega, by simp⟩) su (by decide) ?_
  rintro ⟨v3, v4, i⟩ hv hE
  try dsimp only at hE
  obtain ⟨hi, hv0, hv1, hv2⟩ := hv
  try dsimp only at hi hv0 hv1 hv2
  refine ad 8 ?_
  refine cd (fun h1 => ?_) (fun h1 => ?_)
  ·
    have h1l : i < p0.size := by have := of_decide_eq_true h1; omega
    have hM := hE.trans ((congrArg (fun n => spec_LinesIn_l1 p0 n v3 v4 i) (show p0.size - i = (p0.size - (i + 1)) + 1 by omega)).trans (spec_LinesIn_l1.eq_2 _ _ _ _ _))
    refine ad 7 ?_
    refine op (sx (s := p0) i om) ?_
    refine ad 2 ?_
    refine Run.mid ⟨28, 1, [(0, .v (.string p0)), (3, .sl 0 ((bif (decide (((byteAt p0 i).toNat : Int) = 10)) then (v3 ++ [cutS p0 v4.toNat (i + 1)]) else v3).length)), (4, .v (.int .i64 (bif (decide (((byteAt p0 i).toNat : Int) = 10)) then ((i + 1 : Nat) : Int) else v4))), (5, .v (.int .i64 (i : Int)))], [(0, .own ByteArray instDatByteArray (bif (decide (((byteAt p0 i).toNat : Int) = 10)) then (v3 ++ [cutS p0 v4.toNat (i + 1)]) else v3))]⟩ ?_ ?_
    · refine cd (fun h2 => ?_) (fun h2 => ?_)
      ·
        refine ad 7 ?_
        rw [wrapN (i := i) (by first | omega | exact om)]
        refine op (cu v4.toNat (i + 1)) ?_
        refine ad 1 ?_
        have hg3 : Dat.good (cutS p0 v4.toNat (i + 1)) := cutS_good (by first | assumption | exact om)
        refine op (ap [cutS p0 v4.toNat (i + 1)] (hg := gdt) (hb := by simp only [List.length_cons, List.length_nil]; first | omega | exact om)) ?_
        refine ad 5 ?_
        rw [wrapN (i := i) (by first | omega | exact om)]
        refine ad 2 ?_
        exact Run.at [2] [1] (by first | exact su | (rw [h2]; exact su)) (by decide)
      ·
        refine ad 1 ?_
        exact Run.at [0] [0] (by first | exact su | (rw [h2]; exact su)) (by decide)
    refine ad 4 ?_
    rw [wrapN (i := i) (by first | omega | exact om)]
    refine ad 2 ?_
    exact Run.again (bif (decide (((byteAt p0 i).toNat : Int) = 10)) then (v3 ++ [cutS p0 v4.toNat (i + 1)]) else v3, bif (decide (((byteAt p0 i).toNat : Int) = 10)) then ((i + 1 : Nat) : Int) else v4, (i + 1)) [0] [0] ⟨by exact ⟨by (try dsimp only); omega, by (try dsimp only); ((try simp only [Bool.cond_eq_ite]); (repeat' split) <;> omega), by (try dsimp only); ((try simp only [Bool.cond_eq_ite]); (repeat' split) <;> omega), by (try dsimp only); ((try simp only [Bool.cond_eq_ite]); (repeat' split); all_goals ((try simp only [List.length_append, List.length_cons, List.length_nil]); omega))⟩, hM⟩ rfl (by show _ - _ < _ - _; (try dsimp only); omega) su (by decide)
  ·
    have h1l : ¬ (i < p0.size) := by have := of_decide_eq_false h1; omega
    have hM := hE.trans ((congrArg (fun n => spec_LinesIn_l1 p0 n v3 v4 i) (show p0.size - i = 0 by omega)).trans (spec_LinesIn_l1.eq_1 _ _ _ _))
    refine ad 6 ?_
    exact rz (rs := [.tmp 2]) (congrArg (fun x => [Re.sl ByteArray instDatByteArray x]) hM)

end Go.Proofs.YtppialklomgajaaGreatDoor.Fw
/-
  Lines. No condition.
-/
namespace Go.Proofs.YtppialklomgajaaGreatDoor.Fw
open Go.RowKit
set_option linter.unusedVariables false
set_option linter.unusedSimpArgs false
set_option maxRecDepth 100000
theorem linesA_miss {x : ByteArray} (h : Lib.indexB x ⟨#[10]⟩ = -1) : linesA x = [x] := Lib.splitB_miss _ _ _ _ h
theorem linesA_hit {x : ByteArray} {i : Nat} (h : Lib.indexB x ⟨#[10]⟩ = i) : linesA x = x.extract 0 (i + 1) :: linesA (x.extract (i + 1) x.size) := by
  have hc := Lib.countB_hit x ⟨#[10]⟩ i (Nat.le_refl _) h
  unfold linesA
  rw [hc, Nat.add_comm 1, Lib.splitB_hit _ _ _ _ _ h]
  rfl
theorem sfx_no {l : List UInt8} (h : ∀ y ∈ l, y ≠ 10) : Lib.hasSuffix l [10] = false := by
  cases hb : Lib.hasSuffix l [10] with
  | false => rfl
  | true =>
    obtain ⟨t, rfl⟩ := List.isSuffixOf_iff_suffix.1 hb
    exact absurd rfl (h 10 (by simp))
theorem sfx_yes (l : List UInt8) : Lib.hasSuffix (l ++ [10]) [10] = true := List.isSuffixOf_iff_suffix.2 ⟨l, rfl⟩
theorem lines_is (p0 : ByteArray) : ∀ n i (v : List ByteArray) (b : Nat), i + n = p0.size → b ≤ i → (∀ j, b ≤ j → j < i → byteAt p0 j ≠ 10) → spec_LinesIn_l1 p0 n v (b : Int) i = v ++ keepL (linesA (p0.extract b p0.size)) := by
  intro n
  induction n with
  | zero =>
    intro i v b hi hb hno
    obtain rfl : i = p0.size := by omega
    have hall : ∀ y ∈ (p0.extract b p0.size).data.toList, y ≠ 10 := by
      rw [Lib.extract_to_end]
      intro y hy
      obtain ⟨j, e⟩ := List.mem_iff_getElem?.1 hy
      rw [List.getElem?_drop] at e
      have hlt : b + j < p0.data.toList.length := (List.getElem?_eq_some_iff.1 e).1
      have hlt' : b + j < p0.size := by rw [Array.length_toList] at hlt; exact hlt
      rw [byte_get hlt'] at e
      injection e with e
      rw [← e]
      exact hno _ (by omega) hlt'
    rw [spec_LinesIn_l1, linesA_miss (by rw [indexB_one]; exact ib_none _ hall)]
    show v = v ++ keepL [p0.extract b p0.size]
    unfold keepL
    rw [List.filter_cons_of_neg (p := fun x : ByteArray => Lib.hasSuffix x.data.toList [10]) (by rw [sfx_no hall]; decide), List.filter_nil, List.append_nil]
  | succ n ih =>
    intro i v b hi hb hno
    have hlt : i < p0.size := by omega
    rw [spec_LinesIn_l1]
    by_cases h10 : byteAt p0 i = 10
    · rw [h10, decide_eq_true (show (((10 : UInt8).toNat : Nat) : Int) = 10 from rfl)]
      show spec_LinesIn_l1 p0 n (v ++ [cutS p0 (b : Int).toNat (i + 1)]) ((i + 1 : Nat) : Int) (i + 1) = _
      rw [ih (i + 1) _ (i + 1) (by omega) (Nat.le_refl _) (fun j h1 h2 => by omega), Int.toNat_natCast]
      have hx : Lib.indexB (p0.extract b p0.size) ⟨#[10]⟩ = ((i - b : Nat) : Int) := by
        rw [indexB_one, Lib.extract_to_end]
        refine ib_at _ _ (fun j hj e => ?_) ?_
        · rw [List.getElem?_drop, byte_get (by omega)] at e
          injection e with e
          exact hno (b + j) (by omega) (by omega) e
        · rw [List.getElem?_drop, show b + (i - b) = i by omega, byte_get hlt, h10]
      have e1 : (p0.extract b p0.size).extract 0 (i - b + 1) = p0.extract b (i + 1) := by
        apply ByteArray.ext
        apply Array.toList_inj.1
        rw [Lib.extract_from_zero, Lib.extract_to_end, Lib.extract_data]
        congr 1
        omega
      rw [linesA_hit hx, (ext_ext p0 hb hlt).2, e1]
      have hk : Lib.hasSuffix (p0.extract b (i + 1)).data.toList [10] = true := by
        have e2 : (p0.extract b (i + 1)).data.toList = ((p0.data.toList.drop b).take (i - b)) ++ [10] := by
          rw [Lib.extract_data, show i + 1 - b = (i - b) + 1 by omega, List.take_add_one, List.getElem?_drop, show b + (i - b) = i by omega, byte_get hlt, h10]
          rfl
        rw [e2]
        exact sfx_yes _
      unfold keepL
      rw [List.filter_cons_of_pos (p := fun x : ByteArray => Lib.hasSuffix x.data.toList [10]) hk, List.append_assoc]
      rfl
    · rw [decide_eq_false (show ¬ ((byteAt p0 i).toNat : Int) = 10 from fun e => h10 (UInt8.toNat_inj.1 (by show (byteAt p0 i).toNat = 10; omega)))]
      show spec_LinesIn_l1 p0 n v (b : Int) (i + 1) = _
      refine ih (i + 1) v b (by omega) (by omega) fun j h1 h2 => ?_
      rcases Nat.lt_or_ge j i with h3 | h3
      · exact hno j h1 h3
      · obtain rfl : j = i := by omega
        exact h10
theorem LinesIn_twin (p0 : ByteArray) : LinesIn p0 = spec_LinesIn p0 := by
  unfold spec_LinesIn LinesIn
  rw [Nat.sub_zero]
  have := lines_is p0 p0.size 0 [] 0 (by omega) (Nat.le_refl _) (fun j _ h => absurd h (by omega))
  rw [show p0.extract 0 p0.size = p0 from by apply ByteArray.ext; apply Array.toList_inj.1; rw [Lib.extract_to_end]; rfl, List.nil_append] at this
  exact this.symm
theorem LinesIn_le (p0 : ByteArray) : (LinesIn p0).length ≤ p0.size + 1 := keepL_len p0
theorem spec_LinesIn_le (p0 : ByteArray) : (spec_LinesIn p0).length ≤ p0.size + 1 := by
  rw [← LinesIn_twin]
  exact keepL_len p0

end Go.Proofs.YtppialklomgajaaGreatDoor.Fw

/- Contracts: each call returns what the model says. By program (wip/am/gen2.py). -/
namespace Go.Proofs.YtppialklomgajaaGreatDoor.Fw
open Go.RowKit
set_option linter.unusedVariables false
set_option linter.unusedSimpArgs false
set_option maxRecDepth 100000

theorem fok93 : FnOk Tryz.prog 93 := ⟨_, Tryz.func93, rfl, by kernel_rfl⟩
theorem fok149 : FnOk Tryz.prog 149 := ⟨_, Tryz.func149, rfl, by kernel_rfl⟩
theorem fok150 : FnOk Tryz.prog 150 := ⟨_, Tryz.func150, rfl, by kernel_rfl⟩
theorem fok151 : FnOk Tryz.prog 151 := ⟨_, Tryz.func151, rfl, by kernel_rfl⟩
theorem fok161 : FnOk Tryz.prog 161 := ⟨_, Tryz.func161, rfl, by kernel_rfl⟩
theorem fok162 : FnOk Tryz.prog 162 := ⟨_, Tryz.func162, rfl, by kernel_rfl⟩
theorem eqt114 : ∀ (d : Nat) (x y : Cell) (w : World), (Op.equalIn (d + 10) 114 (.agg [.string x.Key, .string x.Val].toArray) (.agg [.string y.Key, .string y.Val].toArray)).run Tryz.prog w = .ok (decide (x = y)) w := by
  intro d x y w
  have u9 := Tryz.underlying9
  have a9 := Tryz.isAgg9
  have z9 := Tryz.sizeOf9
  have hS : Tryz.prog.underlying 114 = some (.struct (Tryz.prog.fieldsOf 114)) := by kernel_rfl
  have hp : Tryz.prog.stoodInHeld 114 = false := by kernel_rfl
  rw [run_equalIn_agg w (d + 9) 114 _ _ hS hp]
  simp only [Program.fieldsOf, Tryz.underlying114]
  obtain ⟨z1, z2⟩ := x
  obtain ⟨z3, z4⟩ := y
  go_simp
  simp only [bt_inj]
  repeat' split
  all_goals simp_all
theorem eqp114 (x y : Cell) : eqP Tryz.prog 114 [.string x.Key, .string x.Val] [.string y.Key, .string y.Val] (decide (x = y)) := ⟨by kernel_rfl, fun w => eqt114 9990 x y w⟩
/- F90 loop.example/g00974/impl.RecordsIn -/
def impl_RecordsIn_l1 (p0 : ByteArray) (p1 : Int) : Nat → (List (List Cell)) → Int → Nat → (List (List Cell)) × Int
  | 0, v6, v7, i => (v6, v7)
  | n + 1, v6, v7, i => bif (!((impl_ReadRecord (nth (LinesIn p0) i)).2.2)) || ((!((decide ((v6.length : Int) = 0)) && (decide (((impl_ReadRecord (nth (LinesIn p0) i)).1) < p1)))) && (!decide (((impl_ReadRecord (nth (LinesIn p0) i)).1) = (IntKind.i64.wrap (p1 + (v6.length : Int)))))) then (v6, v7) else (impl_RecordsIn_l1 p0 p1 n (bif (!((decide ((v6.length : Int) = 0)) && (decide (((impl_ReadRecord (nth (LinesIn p0) i)).1) < p1)))) then (v6 ++ [(impl_ReadRecord (nth (LinesIn p0) i)).2.1]) else v6) (IntKind.i64.wrap (v7 + ((nth (LinesIn p0) i).size : Int))) (i + 1))
def impl_RecordsIn (p0 : ByteArray) (p1 : Int) : (List (List Cell)) × Int := bif !(impl_within p1 1 100000) then ([], 0) else (impl_RecordsIn_l1 p0 p1 (((LinesIn p0).length) - 0) [] 0 0)
theorem c_impl_RecordsIn (p0 : ByteArray) (p1 : Int) (hq : p0.size ≤ 1048576) : CTs 90 [.o (.c (.string p0)), .o (.c (.int .i64 p1))] [Re.sl (List Cell) (@instDatList _ instDatCell) ((impl_RecordsIn p0 p1).1), Re.c (.int .i64 ((impl_RecordsIn p0 p1).2))] := by
  refine en Tryz.func90 Tryz.ntmps90 fun w hG hgd => ?_
  have hM := impl_RecordsIn.eq_1 p0 p1
  have hll := LinesIn_le p0
  refine ad 9 ?_
  refine op (cl (k_impl_within p1 1 100000) fok158) ?_
  refine ad 2 ?_
  refine cd (fun h1 => ?_) (fun h1 => ?_)
  ·
    have hM := hM.trans (bt h1)
    refine ad 5 ?_
    exact rz (rs := [.tmp 4, .tmp 5]) (congrArg (fun x => [Re.sl (List Cell) (@instDatList _ instDatCell) x.1, Re.c (.int .i64 x.2)]) hM)
  ·
    have hM := hM.trans (bf h1)
    have th1 := impl_within_t (by simpa using h1)
    refine ad 13 ?_
    refine og (clg (k_LinesIn p0 (by first | assumption | omega | exact om)) fok161) fun hgq => ?_
    obtain ⟨hg2, _⟩ := hgq
    refine ad 4 ?_
    refine Run.nil 6 (α := List Cell) (d := (@instDatList _ instDatCell)) rfl ?_
    refine fz 0 ?_
    refine Run.loopM (ι := (List (List Cell)) × Int × Nat) (fun s => impl_RecordsIn_l1 p0 p1 (((LinesIn p0).length) - s.2.2) s.1 s.2.1 s.2.2) (fun s => ⟨65, 2, [(1, .v (.int .i64 p1)), (6, .sl 1 s.1.length), (7, .v (.int .i64 s.2.1)), (18, .sl 0 ((LinesIn p0).length)), (19, .v (.int .i64 ((LinesIn p0).length : Int))), (20, .v (.int .i64 (s.2.2 : Int)))], [(0, .ros ByteArray instDatByteArray (LinesIn p0)), (1, .own (List Cell) (@instDatList _ instDatCell) s.1)]⟩) (fun s => s.2.2 ≤ (LinesIn p0).length ∧ s.1.length ≤ s.2.2) (fun s => ((LinesIn p0).length) - s.2.2) ([], 0, 0) [0, 1] [1, 0] hM (by exact ⟨by (try dsimp only); omega, by simp⟩) su (by decide) ?_
    rintro ⟨v6, v7, i⟩ hv hE
    try dsimp only at hE
    obtain ⟨hi, hv0⟩ := hv
    try dsimp only at hi hv0
    refine ad 5 ?_
    refine cd (fun h3 => ?_) (fun h3 => ?_)
    ·
      have h3l : i < (LinesIn p0).length := by have := of_decide_eq_true h3; omega
      have hM := hE.trans ((congrArg (fun n => impl_RecordsIn_l1 p0 p1 n v6 v7 i) (show ((LinesIn p0).length) - i = (((LinesIn p0).length) - (i + 1)) + 1 by omega)).trans (impl_RecordsIn_l1.eq_2 _ _ _ _ _ _))
      refine ad 5 ?_
      refine op (ix (xs := (LinesIn p0)) i om) ?_
      refine ad 6 ?_
      refine og (clg (c_impl_ReadRecord (nth (LinesIn p0) i)) fok162) fun hgq => ?_
      obtain ⟨hg5, _⟩ := hgq
      refine ad 14 ?_
      refine ag 4 ?_
      refine ad 8 ?_
      refine ag 11 ?_
      refine ad 1 ?_
      refine cd (fun h6 => ?_) (fun h6 => ?_)
      ·
        have hM := hM.trans (bt h6)
        refine ad 8 ?_
        exact rz (rs := [.tmp 4, .tmp 5]) (congrArg (fun x => [Re.sl (List Cell) (@instDatList _ instDatCell) x.1, Re.c (.int .i64 x.2)]) hM)
      ·
        have hM := hM.trans (bf h6)
        refine ad 14 ?_
        refine Run.mid ⟨65, 2, [(1, .v (.int .i64 p1)), (6, .sl 0 ((bif (!((decide ((v6.length : Int) = 0)) && (decide (((impl_ReadRecord (nth (LinesIn p0) i)).1) < p1)))) then (v6 ++ [(impl_ReadRecord (nth (LinesIn p0) i)).2.1]) else v6).length)), (7, .v (.int .i64 (IntKind.i64.wrap (v7 + ((nth (LinesIn p0) i).size : Int))))), (18, .sl 1 ((LinesIn p0).length)), (19, .v (.int .i64 ((LinesIn p0).length : Int))), (20, .v (.int .i64 (i : Int)))], [(0, .own (List Cell) (@instDatList _ instDatCell) (bif (!((decide ((v6.length : Int) = 0)) && (decide (((impl_ReadRecord (nth (LinesIn p0) i)).1) < p1)))) then (v6 ++ [(impl_ReadRecord (nth (LinesIn p0) i)).2.1]) else v6)), (1, .ros ByteArray instDatByteArray (LinesIn p0))]⟩ ?_ ?_
        · refine cd (fun h7 => ?_) (fun h7 => ?_)
          ·
            refine ad 4 ?_
            refine op (aN (e := 35) (by' := 24) v6 ((impl_ReadRecord (nth (LinesIn p0) i)).2.1) [1] (hg := hg5) (hb := by (try simp only [List.length_cons, List.length_nil]); first | omega | exact om) (hm := by (try simp only [List.length_cons, List.length_nil]); first | omega | exact om)) ?_
            refine ad 2 ?_
            exact Run.at [5, 0] [0, 3] (by first | exact su | (rw [h7]; exact su)) (by decide)
          ·
            refine ad 1 ?_
            exact Run.at [1, 0] [3, 2] (by first | exact su | (rw [h7]; exact su)) (by decide)
        refine ad 3 ?_
        rw [wrapN (i := i) (by first | omega | exact om)]
        refine ad 2 ?_
        exact Run.again (bif (!((decide ((v6.length : Int) = 0)) && (decide (((impl_ReadRecord (nth (LinesIn p0) i)).1) < p1)))) then (v6 ++ [(impl_ReadRecord (nth (LinesIn p0) i)).2.1]) else v6, IntKind.i64.wrap (v7 + ((nth (LinesIn p0) i).size : Int)), (i + 1)) [1, 0] [1, 0] ⟨by exact ⟨by (try dsimp only); omega, by (try dsimp only); ((try simp only [Bool.cond_eq_ite]); (repeat' split); all_goals ((try simp only [List.length_append, List.length_cons, List.length_nil]); omega))⟩, hM⟩ rfl (by show _ - _ < _ - _; (try dsimp only); omega) su (by decide)
    ·
      have h3l : ¬ (i < (LinesIn p0).length) := by have := of_decide_eq_false h3; omega
      have hM := hE.trans ((congrArg (fun n => impl_RecordsIn_l1 p0 p1 n v6 v7 i) (show ((LinesIn p0).length) - i = 0 by omega)).trans (impl_RecordsIn_l1.eq_1 _ _ _ _ _))
      refine ad 8 ?_
      exact rz (rs := [.tmp 4, .tmp 5]) (congrArg (fun x => [Re.sl (List Cell) (@instDatList _ instDatCell) x.1, Re.c (.int .i64 x.2)]) hM)

/- F81 loop.example/g00974/spec.RecordsIn -/
def spec_RecordsIn_l1 (p0 : ByteArray) (p1 : Int) : Nat → (List (List Cell)) → Int → Nat → (List (List Cell)) × Int
  | 0, v6, v8, i => (v6, v8)
  | n + 1, v6, v8, i => bif (!((spec_ReadRecord (nth (spec_LinesIn p0) i)).2.2)) || ((!decide (((spec_ReadRecord (nth (spec_LinesIn p0) i)).1) = (IntKind.i64.wrap (p1 + (v6.length : Int))))) && ((decide ((v6.length : Int) > 0)) || (decide (((spec_ReadRecord (nth (spec_LinesIn p0) i)).1) > p1)))) then (v6, v8) else (spec_RecordsIn_l1 p0 p1 n (bif (decide (((spec_ReadRecord (nth (spec_LinesIn p0) i)).1) = (IntKind.i64.wrap (p1 + (v6.length : Int))))) then (v6 ++ [(spec_ReadRecord (nth (spec_LinesIn p0) i)).2.1]) else v6) (IntKind.i64.wrap (v8 + ((nth (spec_LinesIn p0) i).size : Int))) (i + 1))
def spec_RecordsIn (p0 : ByteArray) (p1 : Int) : (List (List Cell)) × Int := bif !(spec_l01In p1 1 100000) then (([] : List (List Cell)), 0) else (spec_RecordsIn_l1 p0 p1 (((spec_LinesIn p0).length) - 0) ([] : List (List Cell)) 0 0)
theorem c_spec_RecordsIn (p0 : ByteArray) (p1 : Int) (hz_p0 : p0.size ≤ 9223372036854775807) (hq : p0.size ≤ 1048576) : CTs 81 [.o (.c (.string p0)), .o (.c (.int .i64 p1))] [Re.sl (List Cell) (@instDatList _ instDatCell) ((spec_RecordsIn p0 p1).1), Re.c (.int .i64 ((spec_RecordsIn p0 p1).2))] := by
  refine en Tryz.func81 Tryz.ntmps81 fun w hG hgd => ?_
  have hM := spec_RecordsIn.eq_1 p0 p1
  have hll := spec_LinesIn_le p0
  refine ad 7 ?_
  refine op (l0) ?_
  refine ad 6 ?_
  refine op (cl (k_spec_l01In p1 1 100000) fok146) ?_
  refine ad 2 ?_
  refine cd (fun h1 => ?_) (fun h1 => ?_)
  ·
    have hM := hM.trans (bt h1)
    refine ad 6 ?_
    refine li 0 (d := (@instDatList _ instDatCell)) ([] : List (List Cell)) ?_
    exact rz (rs := [.tmp 4, .tmp 5]) (congrArg (fun x => [Re.sl (List Cell) (@instDatList _ instDatCell) x.1, Re.c (.int .i64 x.2)]) hM)
  ·
    have hM := hM.trans (bf h1)
    have th1 := spec_l01In_t (by simpa using h1)
    refine ad 4 ?_
    refine og (clg (c_spec_LinesIn p0 hz_p0 (by first | assumption | omega | exact om)) fok149) fun hgq => ?_
    obtain ⟨hg2, _⟩ := hgq
    refine ad 12 ?_
    refine li 0 (d := (@instDatList _ instDatCell)) ([] : List (List Cell)) ?_
    refine fz 1 ?_
    refine Run.loopM (ι := (List (List Cell)) × Int × Nat) (fun s => spec_RecordsIn_l1 p0 p1 (((spec_LinesIn p0).length) - s.2.2) s.1 s.2.1 s.2.2) (fun s => ⟨74, 2, [(1, .v (.int .i64 p1)), (6, .sl 1 s.1.length), (7, .sl 0 ((spec_LinesIn p0).length)), (8, .v (.int .i64 s.2.1)), (9, .v (.int .i64 (s.2.2 : Int)))], [(0, .ros ByteArray instDatByteArray (spec_LinesIn p0)), (1, .own (List Cell) (@instDatList _ instDatCell) s.1)]⟩) (fun s => s.2.2 ≤ (spec_LinesIn p0).length ∧ s.1.length ≤ s.2.2) (fun s => ((spec_LinesIn p0).length) - s.2.2) (([] : List (List Cell)), 0, 0) [1, 0] [0, 1] hM (by exact ⟨by (try dsimp only); omega, by simp⟩) su (by decide) ?_
    rintro ⟨v6, v8, i⟩ hv hE
    try dsimp only at hE
    obtain ⟨hi, hv0⟩ := hv
    try dsimp only at hi hv0
    refine ad 8 ?_
    refine cd (fun h3 => ?_) (fun h3 => ?_)
    ·
      have h3l : i < (spec_LinesIn p0).length := by have := of_decide_eq_true h3; omega
      have hM := hE.trans ((congrArg (fun n => spec_RecordsIn_l1 p0 p1 n v6 v8 i) (show ((spec_LinesIn p0).length) - i = (((spec_LinesIn p0).length) - (i + 1)) + 1 by omega)).trans (spec_RecordsIn_l1.eq_2 _ _ _ _ _ _))
      refine ad 7 ?_
      refine op (ix (xs := (spec_LinesIn p0)) i om) ?_
      refine ad 1 ?_
      refine og (clg (c_spec_ReadRecord (nth (spec_LinesIn p0) i)) fok150) fun hgq => ?_
      obtain ⟨hg5, _⟩ := hgq
      refine ad 14 ?_
      refine ag 17 ?_
      refine ad 1 ?_
      refine cd (fun h6 => ?_) (fun h6 => ?_)
      ·
        have hM := hM.trans (bt h6)
        refine ad 8 ?_
        exact rz (rs := [.tmp 4, .tmp 5]) (congrArg (fun x => [Re.sl (List Cell) (@instDatList _ instDatCell) x.1, Re.c (.int .i64 x.2)]) hM)
      ·
        have hM := hM.trans (bf h6)
        refine ad 11 ?_
        refine Run.mid ⟨74, 2, [(1, .v (.int .i64 p1)), (6, .sl 0 ((bif (decide (((spec_ReadRecord (nth (spec_LinesIn p0) i)).1) = (IntKind.i64.wrap (p1 + (v6.length : Int))))) then (v6 ++ [(spec_ReadRecord (nth (spec_LinesIn p0) i)).2.1]) else v6).length)), (7, .sl 1 ((spec_LinesIn p0).length)), (8, .v (.int .i64 v8)), (9, .v (.int .i64 (i : Int)))], [(0, .own (List Cell) (@instDatList _ instDatCell) (bif (decide (((spec_ReadRecord (nth (spec_LinesIn p0) i)).1) = (IntKind.i64.wrap (p1 + (v6.length : Int))))) then (v6 ++ [(spec_ReadRecord (nth (spec_LinesIn p0) i)).2.1]) else v6)), (1, .ros ByteArray instDatByteArray (spec_LinesIn p0))]⟩ ?_ ?_
        · refine cd (fun h7 => ?_) (fun h7 => ?_)
          ·
            refine ad 4 ?_
            refine op (aN (e := 35) (by' := 24) v6 ((spec_ReadRecord (nth (spec_LinesIn p0) i)).2.1) [1] (hg := hg5) (hb := by (try simp only [List.length_cons, List.length_nil]); first | omega | exact om) (hm := by (try simp only [List.length_cons, List.length_nil]); first | omega | exact om)) ?_
            refine ad 2 ?_
            exact Run.at [5, 0] [0, 3] (by first | exact su | (rw [h7]; exact su)) (by decide)
          ·
            refine ad 1 ?_
            exact Run.at [1, 0] [3, 2] (by first | exact su | (rw [h7]; exact su)) (by decide)
        refine ad 4 ?_
        refine op (ix (xs := (spec_LinesIn p0)) i om) ?_
        refine ad 9 ?_
        rw [wrapN (i := i) (by first | omega | exact om)]
        refine ad 2 ?_
        exact Run.again (bif (decide (((spec_ReadRecord (nth (spec_LinesIn p0) i)).1) = (IntKind.i64.wrap (p1 + (v6.length : Int))))) then (v6 ++ [(spec_ReadRecord (nth (spec_LinesIn p0) i)).2.1]) else v6, IntKind.i64.wrap (v8 + ((nth (spec_LinesIn p0) i).size : Int)), (i + 1)) [1, 0] [2, 1] ⟨by exact ⟨by (try dsimp only); omega, by (try dsimp only); ((try simp only [Bool.cond_eq_ite]); (repeat' split); all_goals ((try simp only [List.length_append, List.length_cons, List.length_nil]); omega))⟩, hM⟩ rfl (by show _ - _ < _ - _; (try dsimp only); omega) su (by decide)
    ·
      have h3l : ¬ (i < (spec_LinesIn p0).length) := by have := of_decide_eq_false h3; omega
      have hM := hE.trans ((congrArg (fun n => spec_RecordsIn_l1 p0 p1 n v6 v8 i) (show ((spec_LinesIn p0).length) - i = 0 by omega)).trans (spec_RecordsIn_l1.eq_1 _ _ _ _ _))
      refine ad 8 ?_
      exact rz (rs := [.tmp 4, .tmp 5]) (congrArg (fun x => [Re.sl (List Cell) (@instDatList _ instDatCell) x.1, Re.c (.int .i64 x.2)]) hM)

/- F82 loop.example/g00974/spec.ApplyRecord -/
def spec_ApplyRecord_l1 (p0 : List Cell) (p1 : List Cell) : Nat → (List Cell) → Nat → (List Cell)
  | 0, v0, i => v0
  | n + 1, v0, i => spec_ApplyRecord_l1 p0 p1 n (spec_PutKey v0 ((nth p1 i).Key) ((nth p1 i).Val)) (i + 1)
def spec_ApplyRecord (p0 : List Cell) (p1 : List Cell) : (List Cell) := spec_ApplyRecord_l1 p0 p1 (p1.length - 0) (([] : List Cell) ++ p0) 0
theorem c_spec_ApplyRecord (p0 : List Cell) (p1 : List Cell) (hb : p0.length + p1.length ≤ 1073741820) : CTs 82 [.o (.sl Cell instDatCell p0), .o (.sl Cell instDatCell p1)] [Re.sl Cell instDatCell (spec_ApplyRecord p0 p1)] := by
  refine en Tryz.func82 Tryz.ntmps82 fun w hG hgd => ?_
  obtain ⟨hg_p0, hg_p1, _⟩ := hgd
  have hl_p0 : p0.length ≤ 9223372036854775807 := hg_p0.1
  have hl_p1 : p1.length ≤ 9223372036854775807 := hg_p1.1
  have hM := spec_ApplyRecord.eq_1 p0 p1
  refine ad 6 ?_
  refine op (l0) ?_
  refine ad 1 ?_
  refine li 2 (d := instDatCell) ([] : List Cell) ?_
  refine op (aS (dα := instDatCell) (e := 114) (by' := 32) ([] : List Cell) p0 [2] (hb := by (try simp only [List.length_append, List.length_cons, List.length_nil]); first | omega | exact om) (hm := by (try simp only [List.length_append, List.length_cons, List.length_nil]); first | omega | exact om)) ?_
  refine ad 8 ?_
  refine Run.loopM (ι := (List Cell) × Nat) (fun s => spec_ApplyRecord_l1 p0 p1 (p1.length - s.2) s.1 s.2) (fun s => ⟨28, 2, [(0, .sl 1 s.1.length), (1, .sl 0 p1.length), (5, .v (.int .i64 (s.2 : Int)))], [(0, .ros Cell instDatCell p1), (1, .own Cell instDatCell s.1)]⟩) (fun s => s.2 ≤ p1.length ∧ s.1.length ≤ p0.length + s.2) (fun s => p1.length - s.2) ((([] : List Cell) ++ p0), 0) [1, 3] [2, 0] hM (by exact ⟨by (try dsimp only); omega, by simp⟩) su (by decide) ?_
  rintro ⟨v0, i⟩ hv hE
  try dsimp only at hE
  obtain ⟨hi, hv0⟩ := hv
  try dsimp only at hi hv0
  refine ad 8 ?_
  refine cd (fun h1 => ?_) (fun h1 => ?_)
  ·
    have h1l : i < p1.length := by have := of_decide_eq_true h1; omega
    have hM := hE.trans ((congrArg (fun n => spec_ApplyRecord_l1 p0 p1 n v0 i) (show p1.length - i = (p1.length - (i + 1)) + 1 by omega)).trans (spec_ApplyRecord_l1.eq_2 _ _ _ _ _))
    have hpl := spec_PutKey_len v0 (nth p1 i).Key (nth p1 i).Val
    have hgk : (nth p1 i).Key.size ≤ 9223372036854775807 := (good_nth (k := i) hg_p1 om).1
    have hgv : (nth p1 i).Val.size ≤ 9223372036854775807 := (good_nth (k := i) hg_p1 om).2
    refine ad 3 ?_
    refine dr 13 fun _ _ _ _ _ hb => ?_
    refine tk [0, 1, 2] ?_
    have hg2 := good_nth (k := i) hg_p1 om
    refine tx 3 (dx (xs := p1) i om) ?_
    refine tk [4, 5, 6, 7] ?_
    have hg3 := good_nth (k := i) hg_p1 om
    refine tx 8 (dx (xs := p1) i om) ?_
    refine tk [9, 10] ?_
    refine ong 11 [3, 4] (clg (c_spec_PutKey v0 ((nth p1 i).Key) ((nth p1 i).Val) hg3.1 (by first | assumption | omega | exact om) (by first | assumption | omega | exact om) (by first | assumption | omega | exact om)) fok151) fun hgq => ?_
    obtain ⟨hg4, _⟩ := hgq
    refine tk [12] ?_
    refine dn hb ?_
    refine ad 4 ?_
    rw [wrapN (i := i) (by first | omega | exact om)]
    refine ad 2 ?_
    exact Run.again ((spec_PutKey v0 ((nth p1 i).Key) ((nth p1 i).Val)), (i + 1)) [0, 4] [3, 0] ⟨by exact ⟨by (try dsimp only); omega, by (try dsimp only); omega⟩, hM⟩ rfl (by show _ - _ < _ - _; (try dsimp only); omega) su (by decide)
  ·
    have h1l : ¬ (i < p1.length) := by have := of_decide_eq_false h1; omega
    have hM := hE.trans ((congrArg (fun n => spec_ApplyRecord_l1 p0 p1 n v0 i) (show p1.length - i = 0 by omega)).trans (spec_ApplyRecord_l1.eq_1 _ _ _ _))
    refine ad 6 ?_
    exact rz (rs := [.tmp 4]) (congrArg (fun x => [Re.sl Cell instDatCell x]) hM)

/- F93 slices.Equal[[]loop.example/g00974/impl.Cell,loop.example/g00974/impl.Cell] -/
def slices_Equal_Cell_l1 (p0 : List Cell) (p1 : List Cell) : Nat → Nat → Bool
  | 0, i => true
  | n + 1, i => bif !(decide ((nth p0 i) = (nth p1 i))) then false else (slices_Equal_Cell_l1 p0 p1 n (i + 1))
def slices_Equal_Cell (p0 : List Cell) (p1 : List Cell) : Bool := bif !decide ((p0.length : Int) = (p1.length : Int)) then false else (slices_Equal_Cell_l1 p0 p1 (p0.length - 0) 0)
theorem c_slices_Equal_Cell (p0 : List Cell) (p1 : List Cell) : CTs 93 [.o (.sl Cell instDatCell p0), .o (.sl Cell instDatCell p1)] [Re.c (.bool (slices_Equal_Cell p0 p1))] := by
  refine en Tryz.func93 Tryz.ntmps93 fun w hG hgd => ?_
  obtain ⟨hg_p0, hg_p1, _⟩ := hgd
  have hl_p0 : p0.length ≤ 9223372036854775807 := hg_p0.1
  have hl_p1 : p1.length ≤ 9223372036854775807 := hg_p1.1
  have hM := slices_Equal_Cell.eq_1 p0 p1
  refine ad 13 ?_
  refine cd (fun h1 => ?_) (fun h1 => ?_)
  ·
    have hM := hM.trans (bt h1)
    refine ad 4 ?_
    exact rz (rs := [.tmp 4]) (congrArg (fun x => [Re.c (.bool x)]) hM)
  ·
    have hM := hM.trans (bf h1)
    refine ad 9 ?_
    refine Run.loopM (ι := Nat) (fun s => slices_Equal_Cell_l1 p0 p1 (p0.length - s) s) (fun s => ⟨26, 2, [(0, .sl 0 p0.length), (1, .sl 1 p1.length), (12, .v (.int .i64 (p0.length : Int))), (13, .v (.int .i64 (s : Int)))], [(0, .ros Cell instDatCell p0), (1, .ros Cell instDatCell p1)]⟩) (fun s => s ≤ p0.length) (fun s => p0.length - s) 0 [0, 1] [0, 1] hM (by first | exact ⟨by omega, by simp⟩ | omega | simp | (dsimp only; omega)) su (by decide) ?_
    rintro i hv hE
    try dsimp only at hE
    have hi := hv
    try dsimp only at hi
    refine ad 5 ?_
    refine cd (fun h2 => ?_) (fun h2 => ?_)
    ·
      have h2l : i < p0.length := by have := of_decide_eq_true h2; omega
      have hM := hE.trans ((congrArg (fun n => slices_Equal_Cell_l1 p0 p1 n i) (show p0.length - i = (p0.length - (i + 1)) + 1 by omega)).trans (slices_Equal_Cell_l1.eq_2 _ _ _ _))
      refine ad 9 ?_
      refine dr 9 fun _ _ _ _ _ hb => ?_
      refine tk [0, 1] ?_
      have hg3 := good_nth (k := i) hg_p0 om
      refine tx 2 (dx (xs := p0) i om) ?_
      refine tk [3, 4, 5] ?_
      have hg4 := good_nth (k := i) hg_p1 om
      refine tx 6 (dx (xs := p1) i om) ?_
      refine tk [7] ?_
      refine on 8 [2, 3] (qe (eqp114 (nth p0 i) (nth p1 i))) ?_
      refine dn hb ?_
      refine cd (fun h5 => ?_) (fun h5 => ?_)
      ·
        have hM := hM.trans (bt h5)
        refine ad 4 ?_
        exact rz (rs := [.tmp 4]) (congrArg (fun x => [Re.c (.bool x)]) hM)
      ·
        have hM := hM.trans (bf h5)
        refine ad 4 ?_
        rw [wrapN (i := i) (by first | omega | exact om)]
        refine ad 2 ?_
        exact Run.again (i + 1) [0, 1] [2, 3] ⟨by first | omega | exact trivial | (dsimp only; omega) | (refine ⟨by omega, ?_⟩; simp_all; try omega), hM⟩ rfl (by show _ - _ < _ - _; (try dsimp only); omega) su (by decide)
    ·
      have h2l : ¬ (i < p0.length) := by have := of_decide_eq_false h2; omega
      have hM := hE.trans ((congrArg (fun n => slices_Equal_Cell_l1 p0 p1 n i) (show p0.length - i = 0 by omega)).trans (slices_Equal_Cell_l1.eq_1 _ _ _))
      refine ad 5 ?_
      exact rz (rs := [.tmp 4]) (congrArg (fun x => [Re.c (.bool x)]) hM)

/- F44 loop.example/g00974/impl.SameStore -/
def impl_SameStore (p0 : List Cell) (p1 : List Cell) : Bool := (slices_Equal_Cell p0 p1)
theorem c_impl_SameStore (p0 : List Cell) (p1 : List Cell) : CTs 44 [.o (.sl Cell instDatCell p0), .o (.sl Cell instDatCell p1)] [Re.c (.bool (impl_SameStore p0 p1))] := by
  refine en Tryz.func44 Tryz.ntmps44 fun w hG hgd => ?_
  obtain ⟨hg_p0, hg_p1, _⟩ := hgd
  have hl_p0 : p0.length ≤ 9223372036854775807 := hg_p0.1
  have hl_p1 : p1.length ≤ 9223372036854775807 := hg_p1.1
  have hM := impl_SameStore.eq_1 p0 p1
  refine ad 8 ?_
  refine op (cl (c_slices_Equal_Cell p0 p1) fok93) ?_
  refine ad 2 ?_
  exact rz (rs := [.tmp 4]) (congrArg (fun x => [Re.c (.bool x)]) hM)

/- F37 loop.example/g00974/spec.SameStore -/
def spec_SameStore_l1 (p0 : List Cell) (p1 : List Cell) : Nat → Nat → Bool
  | 0, i => true
  | n + 1, i => bif !(decide ((nth p0 i) = (nth p1 i))) then false else (spec_SameStore_l1 p0 p1 n (i + 1))
def spec_SameStore (p0 : List Cell) (p1 : List Cell) : Bool := bif !decide ((p0.length : Int) = (p1.length : Int)) then false else (spec_SameStore_l1 p0 p1 (p0.length - 0) 0)
theorem c_spec_SameStore (p0 : List Cell) (p1 : List Cell) : CTs 37 [.o (.sl Cell instDatCell p0), .o (.sl Cell instDatCell p1)] [Re.c (.bool (spec_SameStore p0 p1))] := by
  refine en Tryz.func37 Tryz.ntmps37 fun w hG hgd => ?_
  obtain ⟨hg_p0, hg_p1, _⟩ := hgd
  have hl_p0 : p0.length ≤ 9223372036854775807 := hg_p0.1
  have hl_p1 : p1.length ≤ 9223372036854775807 := hg_p1.1
  have hM := spec_SameStore.eq_1 p0 p1
  refine ad 13 ?_
  refine cd (fun h1 => ?_) (fun h1 => ?_)
  ·
    have hM := hM.trans (bt h1)
    refine ad 4 ?_
    exact rz (rs := [.tmp 4]) (congrArg (fun x => [Re.c (.bool x)]) hM)
  ·
    have hM := hM.trans (bf h1)
    refine ad 7 ?_
    refine Run.loopM (ι := Nat) (fun s => spec_SameStore_l1 p0 p1 (p0.length - s) s) (fun s => ⟨26, 2, [(0, .sl 0 p0.length), (1, .sl 1 p1.length), (5, .v (.int .i64 (s : Int)))], [(0, .ros Cell instDatCell p0), (1, .ros Cell instDatCell p1)]⟩) (fun s => s ≤ p0.length) (fun s => p0.length - s) 0 [0, 1] [0, 1] hM (by first | exact ⟨by omega, by simp⟩ | omega | simp | (dsimp only; omega)) su (by decide) ?_
    rintro i hv hE
    try dsimp only at hE
    have hi := hv
    try dsimp only at hi
    refine ad 8 ?_
    refine cd (fun h2 => ?_) (fun h2 => ?_)
    ·
      have h2l : i < p0.length := by have := of_decide_eq_true h2; omega
      have hM := hE.trans ((congrArg (fun n => spec_SameStore_l1 p0 p1 n i) (show p0.length - i = (p0.length - (i + 1)) + 1 by omega)).trans (spec_SameStore_l1.eq_2 _ _ _ _))
      refine ad 4 ?_
      refine dr 9 fun _ _ _ _ _ hb => ?_
      refine tk [0, 1] ?_
      have hg3 := good_nth (k := i) hg_p0 om
      refine tx 2 (dx (xs := p0) i om) ?_
      refine tk [3, 4, 5] ?_
      have hg4 := good_nth (k := i) hg_p1 om
      refine tx 6 (dx (xs := p1) i om) ?_
      refine tk [7] ?_
      refine on 8 [2, 3] (qe (eqp114 (nth p0 i) (nth p1 i))) ?_
      refine dn hb ?_
      refine cd (fun h5 => ?_) (fun h5 => ?_)
      ·
        have hM := hM.trans (bt h5)
        refine ad 4 ?_
        exact rz (rs := [.tmp 4]) (congrArg (fun x => [Re.c (.bool x)]) hM)
      ·
        have hM := hM.trans (bf h5)
        refine ad 5 ?_
        rw [wrapN (i := i) (by first | omega | exact om)]
        refine ad 2 ?_
        exact Run.again (i + 1) [0, 1] [2, 3] ⟨by first | omega | exact trivial | (dsimp only; omega) | (refine ⟨by omega, ?_⟩; simp_all; try omega), hM⟩ rfl (by show _ - _ < _ - _; (try dsimp only); omega) su (by decide)
    ·
      have h2l : ¬ (i < p0.length) := by have := of_decide_eq_false h2; omega
      have hM := hE.trans ((congrArg (fun n => spec_SameStore_l1 p0 p1 n i) (show p0.length - i = 0 by omega)).trans (spec_SameStore_l1.eq_1 _ _ _))
      refine ad 5 ?_
      exact rz (rs := [.tmp 4]) (congrArg (fun x => [Re.c (.bool x)]) hM)

end Go.Proofs.YtppialklomgajaaGreatDoor.Fw
/-
  Disks that are well; how much a journal holds. No condition.
-/
namespace Go.Proofs.YtppialklomgajaaGreatDoor.Fw
open Go.RowKit
set_option linter.unusedVariables false
set_option linter.unusedSimpArgs false
set_option maxRecDepth 100000
theorem within_is (a b c : Int) : impl_within a b c = spec_l01In a b c := rfl
theorem bl_swap : ∀ x y : List UInt8, (Op.bytesLess x y || decide (x = y)) = !(Op.bytesLess y x)
  | [], [] => rfl
  | [], _ :: _ => rfl
  | _ :: _, [] => rfl
  | a :: x, b :: y => by
    have ih := bl_swap x y
    simp only [Op.bytesLess, List.cons.injEq, Bool.decide_and]
    by_cases h : a = b
    · subst h
      simp only [UInt8.lt_irrefl, decide_false, Bool.false_or, beq_self_eq_true, Bool.true_and, decide_true]
      exact ih
    · have h1 : (a == b) = false := beq_eq_false_iff_ne.2 h
      have h2 : (b == a) = false := beq_eq_false_iff_ne.2 (Ne.symm h)
      simp only [h1, h2, h, decide_false, Bool.false_and, Bool.or_false]
      by_cases hl : a < b
      · have : ¬ b < a := UInt8.not_lt.2 (UInt8.le_of_lt hl)
        simp [hl, this]
      · have : b < a := UInt8.lt_of_le_of_ne (UInt8.not_lt.1 hl) (Ne.symm h)
        simp [hl, this]
theorem ltB_swap (a b : ByteArray) : (ltB a b || decide (a = b)) = !(ltB b a) := by
  unfold ltB
  rw [← bl_swap]
  congr 1
  by_cases h : a = b
  · subst h; simp
  · rw [decide_eq_false h, decide_eq_false]
    intro e
    apply h
    apply ByteArray.ext
    apply Array.toList_inj.1
    rw [← Lib.toList_data, ← Lib.toList_data, e]
theorem KeyOk_l1_twin (p0 : ByteArray) : ∀ n i, impl_KeyOk_l1 p0 n i = spec_KeyOk_l1 p0 n i := by
  intro n
  induction n with
  | zero => intro i; rfl
  | succ n ih =>
    intro i
    rw [impl_KeyOk_l1, spec_KeyOk_l1, ih]
    have hb := (byteAt p0 i).toNat_lt
    rw [IntWalk.i64_in ((byteAt p0 i).toNat : Int) (by omega)]
    have e : ((decide (((byteAt p0 i).toNat : Int) < 33)) || (decide (((byteAt p0 i).toNat : Int) > 126))) = !(spec_l01In ((byteAt p0 i).toNat : Int) 33 126) := by
      unfold spec_l01In
      generalize ((byteAt p0 i).toNat : Int) = x
      by_cases h1 : x < 33
      · simp [h1, show ¬ (x ≥ 33) by omega]
      · by_cases h2 : x > 126
        · simp [h1, h2, show ¬ (x ≤ 126) by omega]
        · simp [h1, h2, show x ≥ 33 by omega, show x ≤ 126 by omega]
    rw [e]
theorem KeyOk_twin (p0 : ByteArray) : impl_KeyOk p0 = spec_KeyOk p0 := KeyOk_l1_twin p0 _ _
theorem StoreOk_l1_twin (p0 : List Cell) (hl : p0.length ≤ 9223372036854775807) : ∀ n i, i + n = p0.length → impl_StoreOk_l1 p0 n i = spec_StoreOk_l1 p0 n i := by
  intro n
  induction n with
  | zero => intro i _; rfl
  | succ n ih =>
    intro i hi
    rw [impl_StoreOk_l1, spec_StoreOk_l1, ih (i + 1) (by omega), KeyOk_twin, within_is, ltB_swap]
theorem StoreOk_l1_len (p0 : List Cell) : ∀ n i, spec_StoreOk_l1 p0 n i = true → p0.length ≤ 900 := by
  intro n
  induction n with
  | zero => intro i h; rw [spec_StoreOk_l1] at h; have := of_decide_eq_true h; omega
  | succ n ih =>
    intro i h
    rw [spec_StoreOk_l1] at h
    revert h
    generalize (((!_) || _) || _) = q
    cases q
    · exact fun h => ih _ h
    · intro h; cases h
theorem StoreOk_l1_lenI (p0 : List Cell) : ∀ n i, impl_StoreOk_l1 p0 n i = true → p0.length ≤ 900 := by
  intro n
  induction n with
  | zero => intro i h; rw [impl_StoreOk_l1] at h; have := of_decide_eq_true h; omega
  | succ n ih =>
    intro i h
    rw [impl_StoreOk_l1] at h
    revert h
    generalize (((!_) || _) || _) = q
    cases q
    · exact fun h => ih _ h
    · intro h; cases h
theorem StoreOk_twin (p0 : List Cell) : impl_StoreOk p0 = spec_StoreOk p0 := by
  unfold impl_StoreOk spec_StoreOk
  by_cases h : p0.length ≤ 900
  · exact StoreOk_l1_twin p0 (by omega) _ _ (by omega)
  · cases h1 : impl_StoreOk_l1 p0 (p0.length - 0) 0 with
    | true => exact absurd (StoreOk_l1_lenI p0 _ _ h1) h
    | false =>
      cases h2 : spec_StoreOk_l1 p0 (p0.length - 0) 0 with
      | true => exact absurd (StoreOk_l1_len p0 _ _ h2) h
      | false => rfl
theorem StoreOk_len {p0 : List Cell} (h : spec_StoreOk p0 = true) : p0.length ≤ 900 := StoreOk_l1_len p0 _ _ h
theorem BestSlot_l1_twin (p0 : Disk) : ∀ n v i, impl_BestSlot_l1 p0 n v i = spec_BestSlot_l1 p0 n v i := by
  intro n
  induction n with
  | zero => intro v i; rfl
  | succ n ih => intro v i; rw [impl_BestSlot_l1, spec_BestSlot_l1, ih]
theorem BestSlot_twin (p0 : Disk) : impl_BestSlot p0 = spec_BestSlot p0 := BestSlot_l1_twin p0 _ _ _
theorem BestSlot_l1_is (p0 : Disk) : ∀ n (v : Int) i, i + n = p0.Slots.length → (v = -1 ∧ (∀ j, j < i → (nth p0.Slots j).Whole = false) ∨ (0 ≤ v ∧ v < (i : Int) ∧ (nth p0.Slots v.toNat).Whole = true)) →
    (spec_BestSlot_l1 p0 n v i = -1 ∧ (∀ j, j < p0.Slots.length → (nth p0.Slots j).Whole = false) ∨ (0 ≤ spec_BestSlot_l1 p0 n v i ∧ spec_BestSlot_l1 p0 n v i < (p0.Slots.length : Int) ∧ (nth p0.Slots (spec_BestSlot_l1 p0 n v i).toNat).Whole = true)) := by
  intro n
  induction n with
  | zero =>
    intro v i hi h
    obtain rfl : i = p0.Slots.length := by omega
    exact h
  | succ n ih =>
    intro v i hi h
    rw [spec_BestSlot_l1]
    refine ih _ (i + 1) (by omega) ?_
    cases hw : (nth p0.Slots i).Whole with
    | false =>
      rw [Bool.false_and, cond_false]
      rcases h with ⟨h1, h2⟩ | ⟨h1, h2, h3⟩
      · refine .inl ⟨h1, fun j hj => ?_⟩
        by_cases e : j = i
        · rw [e]; exact hw
        · exact h2 j (by omega)
      · exact .inr ⟨h1, by omega, h3⟩
    | true =>
      rw [Bool.true_and]
      cases hc : (decide (v < 0) || decide ((nth p0.Slots i).Seq > (nth p0.Slots v.toNat).Seq)) with
      | true => exact .inr ⟨by show (0 : Int) ≤ (i : Int); omega, by show (i : Int) < _; omega, hw⟩
      | false =>
        rcases h with ⟨h1, h2⟩ | ⟨h1, h2, h3⟩
        · rw [h1] at hc
          cases hc
        · exact .inr ⟨h1, by show v < _; omega, h3⟩
theorem BestSlot_is (p0 : Disk) : (spec_BestSlot p0 = -1 ∧ (∀ j, j < p0.Slots.length → (nth p0.Slots j).Whole = false)) ∨ (0 ≤ spec_BestSlot p0 ∧ spec_BestSlot p0 < (p0.Slots.length : Int) ∧ (nth p0.Slots (spec_BestSlot p0).toNat).Whole = true) :=
  BestSlot_l1_is p0 _ (-1) 0 (by omega) (.inl ⟨rfl, fun j hj => by omega⟩)
theorem DiskOk_l1_t (p0 : Disk) : ∀ n i, spec_DiskOk_l1 p0 n i = true → i + n = p0.Slots.length →
    (∀ j, i ≤ j → j < p0.Slots.length → (nth p0.Slots j).Whole = true → spec_l01In (nth p0.Slots j).Seq 0 99999 = true ∧ spec_StoreOk (nth p0.Slots j).Cells = true) ∧ ((decide ((p0.Slots.length : Int) = 2)) && (decide ((spec_BestSlot p0) ≥ 0))) = true ∧ spec_JournalOk p0.Journal = true := by
  intro n
  induction n with
  | zero =>
    intro i h hi
    rw [spec_DiskOk_l1, Bool.and_eq_true] at h
    exact ⟨fun j h1 h2 => by omega, h.1, h.2⟩
  | succ n ih =>
    intro i h hi
    rw [spec_DiskOk_l1] at h
    cases hq : ((nth p0.Slots i).Whole) && ((!(spec_l01In ((nth p0.Slots i).Seq) 0 99999)) || (!(spec_StoreOk ((nth p0.Slots i).Cells)))) with
    | true => rw [hq] at h; cases h
    | false =>
      rw [hq] at h
      obtain ⟨h1, h2⟩ := ih (i + 1) h (by omega)
      refine ⟨fun j hj1 hj2 hw => ?_, h2⟩
      by_cases e : j = i
      · subst e
        rw [hw, Bool.true_and, Bool.or_eq_false_iff, Bool.not_eq_false', Bool.not_eq_false'] at hq
        exact hq
      · exact h1 j (by omega) hj2 hw
theorem spec_DiskOk_t {p0 : Disk} (h : spec_DiskOk p0 = true) : p0.Slots.length = 2 ∧ 0 ≤ spec_BestSlot p0 ∧ spec_BestSlot p0 < (p0.Slots.length : Int) ∧ 0 ≤ (nth p0.Slots (spec_BestSlot p0).toNat).Seq ∧ (nth p0.Slots (spec_BestSlot p0).toNat).Seq ≤ 99999 ∧ (nth p0.Slots (spec_BestSlot p0).toNat).Cells.length ≤ 900 ∧ p0.Journal.Text.size ≤ 20000 := by
  obtain ⟨h1, h2, h3⟩ := DiskOk_l1_t p0 _ _ h (by omega)
  rw [Bool.and_eq_true] at h2
  have hl := of_decide_eq_true h2.1
  have hb := of_decide_eq_true h2.2
  rcases BestSlot_is p0 with ⟨e, _⟩ | ⟨b1, b2, b3⟩
  · omega
  · obtain ⟨c1, c2⟩ := h1 _ (Nat.zero_le _) (by omega) b3
    have c3 := spec_l01In_t c1
    have c4 := StoreOk_len c2
    unfold spec_JournalOk at h3
    rw [Bool.and_eq_true] at h3
    have c5 := of_decide_eq_true h3.1
    exact ⟨by omega, b1, b2, c3.1, c3.2, c4, by omega⟩
theorem DiskOk_l1_twin (p0 : Disk) : ∀ n i, spec_DiskOk_l1 p0 n i = (((decide ((p0.Slots.length : Int) = 2)) && (decide ((spec_BestSlot p0) ≥ 0))) && impl_DiskOk_l1 p0 n i) := by
  intro n
  induction n with
  | zero => intro i; rfl
  | succ n ih =>
    intro i
    rw [spec_DiskOk_l1, impl_DiskOk_l1, ih, StoreOk_twin, within_is]
    cases ((nth p0.Slots i).Whole) && ((!(spec_l01In ((nth p0.Slots i).Seq) 0 99999)) || (!(spec_StoreOk ((nth p0.Slots i).Cells)))) with
    | true => rw [cond_true, cond_true, Bool.and_false]
    | false => rfl
theorem DiskOk_twin (p0 : Disk) : impl_DiskOk p0 = spec_DiskOk p0 := by
  unfold impl_DiskOk spec_DiskOk
  rw [DiskOk_l1_twin]
  by_cases hl : (p0.Slots.length : Int) = 2
  · rw [decide_eq_true hl, Bool.not_true, Bool.false_or, Bool.true_and]
    rcases BestSlot_is p0 with ⟨e, hw⟩ | ⟨b1, b2, b3⟩
    · rw [hw 0 (by omega), hw 1 (by omega), e]
      rfl
    · rw [decide_eq_true (show spec_BestSlot p0 ≥ 0 from b1), Bool.true_and]
      have hb : (spec_BestSlot p0).toNat = 0 ∨ (spec_BestSlot p0).toNat = 1 := by omega
      rcases hb with hb | hb
      · rw [hb] at b3
        rw [b3]
        rfl
      · rw [hb] at b3
        rw [b3, Bool.not_true, Bool.and_false]
        rfl
  · rw [decide_eq_false hl]
    rfl
theorem impl_DiskOk_t {p0 : Disk} (h : impl_DiskOk p0 = true) : p0.Slots.length = 2 ∧ 0 ≤ impl_BestSlot p0 ∧ impl_BestSlot p0 < (p0.Slots.length : Int) ∧ 0 ≤ (nth p0.Slots (impl_BestSlot p0).toNat).Seq ∧ (nth p0.Slots (impl_BestSlot p0).toNat).Seq ≤ 99999 ∧ (nth p0.Slots (impl_BestSlot p0).toNat).Cells.length ≤ 900 ∧ p0.Journal.Text.size ≤ 20000 := by
  rw [BestSlot_twin]
  exact spec_DiskOk_t (by rw [← DiskOk_twin]; exact h)
theorem nths_of {P : List Cell → Prop} (h0 : P []) {xs : List (List Cell)} (h : ∀ x ∈ xs, P x) (k : Nat) : P (nth xs k) := by
  unfold nth
  rw [List.getD_eq_getElem?_getD]
  cases hk : xs[k]? with
  | none => exact h0
  | some x => exact h x (List.mem_of_getElem? hk)
theorem impl_RecordsIn_l1_len (p0 : ByteArray) (p1 : Int) : ∀ n v s i, (∀ x ∈ v, x.length ≤ 4001) → (impl_RecordsIn_l1 p0 p1 n v s i).1.length ≤ v.length + n ∧ ∀ x ∈ (impl_RecordsIn_l1 p0 p1 n v s i).1, x.length ≤ 4001 := by
  intro n
  induction n with
  | zero => intro v s i h; exact ⟨Nat.le_refl _, h⟩
  | succ n ih =>
    intro v s i h
    rw [impl_RecordsIn_l1]
    have hx := impl_ReadRecord_len (nth (LinesIn p0) i)
    generalize ((!_) || ((!(_)) && (!_))) = q
    cases q with
    | true => exact ⟨by show v.length ≤ _; omega, h⟩
    | false =>
      rw [cond_false]
      generalize (!(decide ((v.length : Int) = 0) && decide (((impl_ReadRecord (nth (LinesIn p0) i)).1) < p1))) = r
      cases r with
      | false => have := ih v (IntKind.i64.wrap (s + ((nth (LinesIn p0) i).size : Int))) (i + 1) h; exact ⟨by have := this.1; rw [cond_false]; omega, this.2⟩
      | true =>
        have := ih (v ++ [(impl_ReadRecord (nth (LinesIn p0) i)).2.1]) (IntKind.i64.wrap (s + ((nth (LinesIn p0) i).size : Int))) (i + 1) (fun x hxm => by
          rcases List.mem_append.1 hxm with hxm | hxm
          · exact h x hxm
          · rw [List.mem_singleton.1 hxm]; exact hx)
        exact ⟨by have h1 := this.1; rw [List.length_append, List.length_singleton] at h1; rw [cond_true]; omega, this.2⟩
theorem impl_RecordsIn_len (p0 : ByteArray) (p1 : Int) : (impl_RecordsIn p0 p1).1.length ≤ p0.size + 1 ∧ ∀ k, (nth (impl_RecordsIn p0 p1).1 k).length ≤ 4001 := by
  have key : (impl_RecordsIn p0 p1).1.length ≤ (LinesIn p0).length ∧ ∀ x ∈ (impl_RecordsIn p0 p1).1, x.length ≤ 4001 := by
    unfold impl_RecordsIn
    cases (!(impl_within p1 1 100000)) with
    | true => exact ⟨Nat.zero_le _, fun x hx => by cases hx⟩
    | false =>
      have := impl_RecordsIn_l1_len p0 p1 ((LinesIn p0).length - 0) [] 0 0 (fun x hx => by cases hx)
      rw [cond_false]
      exact ⟨by have := this.1; rw [List.length_nil] at this; omega, this.2⟩
  have := LinesIn_le p0
  exact ⟨by omega, fun k => nths_of (P := fun l => l.length ≤ 4001) (Nat.zero_le _) key.2 k⟩
theorem spec_RecordsIn_l1_len (p0 : ByteArray) (p1 : Int) : ∀ n v s i, (∀ x ∈ v, x.length ≤ 4001) → (spec_RecordsIn_l1 p0 p1 n v s i).1.length ≤ v.length + n ∧ ∀ x ∈ (spec_RecordsIn_l1 p0 p1 n v s i).1, x.length ≤ 4001 := by
  intro n
  induction n with
  | zero => intro v s i h; exact ⟨Nat.le_refl _, h⟩
  | succ n ih =>
    intro v s i h
    rw [spec_RecordsIn_l1]
    have hx := spec_ReadRecord_len (nth (spec_LinesIn p0) i)
    generalize ((!_) || ((!(_)) && (_))) = q
    cases q with
    | true => exact ⟨by show v.length ≤ _; omega, h⟩
    | false =>
      rw [cond_false]
      generalize (decide (((spec_ReadRecord (nth (spec_LinesIn p0) i)).1) = (IntKind.i64.wrap (p1 + (v.length : Int))))) = r
      cases r with
      | false => have := ih v (IntKind.i64.wrap (s + ((nth (spec_LinesIn p0) i).size : Int))) (i + 1) h; exact ⟨by have := this.1; rw [cond_false]; omega, this.2⟩
      | true =>
        have := ih (v ++ [(spec_ReadRecord (nth (spec_LinesIn p0) i)).2.1]) (IntKind.i64.wrap (s + ((nth (spec_LinesIn p0) i).size : Int))) (i + 1) (fun x hxm => by
          rcases List.mem_append.1 hxm with hxm | hxm
          · exact h x hxm
          · rw [List.mem_singleton.1 hxm]; exact hx)
        exact ⟨by have h1 := this.1; rw [List.length_append, List.length_singleton] at h1; rw [cond_true]; omega, this.2⟩
theorem spec_RecordsIn_len (p0 : ByteArray) (p1 : Int) : (spec_RecordsIn p0 p1).1.length ≤ p0.size + 1 ∧ ∀ k, (nth (spec_RecordsIn p0 p1).1 k).length ≤ 4001 := by
  have key : (spec_RecordsIn p0 p1).1.length ≤ (spec_LinesIn p0).length ∧ ∀ x ∈ (spec_RecordsIn p0 p1).1, x.length ≤ 4001 := by
    unfold spec_RecordsIn
    cases (!(spec_l01In p1 1 100000)) with
    | true => exact ⟨Nat.zero_le _, fun x hx => by cases hx⟩
    | false =>
      have := spec_RecordsIn_l1_len p0 p1 ((spec_LinesIn p0).length - 0) [] 0 0 (fun x hx => by cases hx)
      rw [cond_false]
      exact ⟨by have := this.1; rw [List.length_nil] at this; omega, this.2⟩
  have := spec_LinesIn_le p0
  exact ⟨by omega, fun k => nths_of (P := fun l => l.length ≤ 4001) (Nat.zero_le _) key.2 k⟩
theorem spec_ApplyRecord_l1_len (p0 p1 : List Cell) : ∀ n v i, (spec_ApplyRecord_l1 p0 p1 n v i).length ≤ v.length + n := by
  intro n
  induction n with
  | zero => intro v i; exact Nat.le_refl _
  | succ n ih =>
    intro v i
    rw [spec_ApplyRecord_l1]
    have := ih (spec_PutKey v ((nth p1 i).Key) ((nth p1 i).Val)) (i + 1)
    have := spec_PutKey_len v ((nth p1 i).Key) ((nth p1 i).Val)
    omega
theorem spec_ApplyRecord_len (p0 p1 : List Cell) : (spec_ApplyRecord p0 p1).length ≤ p0.length + p1.length := by
  have := spec_ApplyRecord_l1_len p0 p1 (p1.length - 0) ([] ++ p0) 0
  rw [List.nil_append] at this
  unfold spec_ApplyRecord
  rw [List.nil_append]
  omega
theorem Clone_len (p0 : List Cell) : (slices_Clone_Cell p0).length = p0.length := by
  unfold slices_Clone_Cell
  rw [List.nil_append]

end Go.Proofs.YtppialklomgajaaGreatDoor.Fw

/- Contracts: each call returns what the model says. By program (wip/am/gen2.py). -/
namespace Go.Proofs.YtppialklomgajaaGreatDoor.Fw
open Go.RowKit
set_option linter.unusedVariables false
set_option linter.unusedSimpArgs false
set_option maxRecDepth 100000

theorem fok36 : FnOk Tryz.prog 36 := ⟨_, Tryz.func36, rfl, by kernel_rfl⟩
theorem fok37 : FnOk Tryz.prog 37 := ⟨_, Tryz.func37, rfl, by kernel_rfl⟩
theorem fok43 : FnOk Tryz.prog 43 := ⟨_, Tryz.func43, rfl, by kernel_rfl⟩
theorem fok44 : FnOk Tryz.prog 44 := ⟨_, Tryz.func44, rfl, by kernel_rfl⟩
theorem fok79 : FnOk Tryz.prog 79 := ⟨_, Tryz.func79, rfl, by kernel_rfl⟩
theorem fok81 : FnOk Tryz.prog 81 := ⟨_, Tryz.func81, rfl, by kernel_rfl⟩
theorem fok82 : FnOk Tryz.prog 82 := ⟨_, Tryz.func82, rfl, by kernel_rfl⟩
theorem fok88 : FnOk Tryz.prog 88 := ⟨_, Tryz.func88, rfl, by kernel_rfl⟩
theorem fok89 : FnOk Tryz.prog 89 := ⟨_, Tryz.func89, rfl, by kernel_rfl⟩
theorem fok90 : FnOk Tryz.prog 90 := ⟨_, Tryz.func90, rfl, by kernel_rfl⟩
theorem fok91 : FnOk Tryz.prog 91 := ⟨_, Tryz.func91, rfl, by kernel_rfl⟩
theorem fok92 : FnOk Tryz.prog 92 := ⟨_, Tryz.func92, rfl, by kernel_rfl⟩
/- F43 loop.example/g00974/impl.Recovered -/
def impl_Recovered_l2 (p0 : Disk) (v7 : List Cell) (i : Nat) (k_2 : (List Cell) → ((List Cell) × Int)) : Nat → (List Cell) → Nat → (List Cell) × Int
  | 0, v7_2, i_2 => k_2 v7_2
  | n_2 + 1, v7_2, i_2 => impl_Recovered_l2 p0 v7 i k_2 n_2 (impl_put v7_2 ((nth (nth ((impl_RecordsIn p0.Journal.Text (IntKind.i64.wrap (((nth p0.Slots ((impl_BestSlot p0).toNat)).Seq) + 1))).1) i) i_2).Key) ((nth (nth ((impl_RecordsIn p0.Journal.Text (IntKind.i64.wrap (((nth p0.Slots ((impl_BestSlot p0).toNat)).Seq) + 1))).1) i) i_2).Val)) (i_2 + 1)
def impl_Recovered_l1 (p0 : Disk) : Nat → (List Cell) → Nat → (List Cell) × Int
  | 0, v7, i => (v7, IntKind.i64.wrap (((nth p0.Slots ((impl_BestSlot p0).toNat)).Seq) + (((impl_RecordsIn p0.Journal.Text (IntKind.i64.wrap (((nth p0.Slots ((impl_BestSlot p0).toNat)).Seq) + 1))).1).length : Int)))
  | n + 1, v7, i => impl_Recovered_l2 p0 v7 i (fun e => impl_Recovered_l1 p0 n e (i + 1)) (((nth ((impl_RecordsIn p0.Journal.Text (IntKind.i64.wrap (((nth p0.Slots ((impl_BestSlot p0).toNat)).Seq) + 1))).1) i).length) - 0) v7 0
def impl_Recovered (p0 : Disk) : (List Cell) × Int := bif !(impl_DiskOk p0) then ([], 0) else (impl_Recovered_l1 p0 ((((impl_RecordsIn p0.Journal.Text (IntKind.i64.wrap (((nth p0.Slots ((impl_BestSlot p0).toNat)).Seq) + 1))).1).length) - 0) (slices_Clone_Cell ((nth p0.Slots ((impl_BestSlot p0).toNat)).Cells)) 0)
theorem c_impl_Recovered (p0 : Disk) : CTs 43 [.o (.st Disk _ inferInstance p0)] [Re.sl Cell instDatCell ((impl_Recovered p0).1), Re.c (.int .i64 ((impl_Recovered p0).2))] := by
  refine en Tryz.func43 Tryz.ntmps43 fun w hG hgd => ?_
  obtain ⟨hg_p0, _⟩ := hgd
  have hM := impl_Recovered.eq_1 p0
  refine ad 10 ?_
  refine op (cl (c_impl_DiskOk p0) fok88) ?_
  refine ad 2 ?_
  refine cd (fun h1 => ?_) (fun h1 => ?_)
  ·
    have hM := hM.trans (bt h1)
    refine ad 5 ?_
    exact rz (rs := [.tmp 2, .tmp 3]) (congrArg (fun x => [Re.sl Cell instDatCell x.1, Re.c (.int .i64 x.2)]) hM)
  ·
    have hM := hM.trans (bf h1)
    have hdk := impl_DiskOk_t (by simpa using h1)
    have hri := impl_RecordsIn_len p0.Journal.Text (IntKind.i64.wrap (((nth p0.Slots ((impl_BestSlot p0).toNat)).Seq) + 1))
    have hrl : (impl_RecordsIn p0.Journal.Text (IntKind.i64.wrap (((nth p0.Slots ((impl_BestSlot p0).toNat)).Seq) + 1))).1.length ≤ 20001 := by omega
    have hcl := Clone_len ((nth p0.Slots ((impl_BestSlot p0).toNat)).Cells)
    refine ad 2 ?_
    refine Run.mid ⟨60, 4, [(1, .pt 0 0), (4, .pt 2 0)], [(0, .var [.sl 1 p0.Slots.length, .v (.string p0.Journal.Text), .v (.int .i64 p0.Journal.Sure)] 40), (1, .ros Slot instDatSlot p0.Slots), (2, .var [.v (.int .i64 ((nth p0.Slots ((impl_BestSlot p0).toNat)).Seq)), .sl 3 ((nth p0.Slots ((impl_BestSlot p0).toNat)).Cells.length), .v (.bool ((nth p0.Slots ((impl_BestSlot p0).toNat)).Whole))] 108), (3, .ros Cell instDatCell ((nth p0.Slots ((impl_BestSlot p0).toNat)).Cells))]⟩ ?_ ?_
    ·
      refine dr 8 fun _ _ _ _ _ hb => ?_
      refine tk [0, 1, 2] ?_
      refine o2 3 6 ?_ ?_
      ·
        refine on1 3 [0, 1] (cl (c_impl_BestSlot p0) fok89) ?_
        refine o2 4 6 ?_ ?_
        ·
          refine on1 4 [2, 3] (ix (xs := p0.Slots) ((impl_BestSlot p0).toNat) om (hi := om)) ?_
          refine o2 5 6 ?_ ?_
          ·
            refine on1 5 [2, 3] (OpS.st rfl) ?_
            refine on 6 [3, 4] (OpS.st rfl) ?_
            refine on 7 [3, 4] (OpS.st rfl) ?_
            refine dn hb ?_
            exact Run.at [1, 0, 4, 3] [3, 4, 0, 2] su (by decide)
          ·
            refine on1 6 [3, 4] (OpS.st rfl) ?_
            refine on 5 [3, 4] (OpS.st rfl) ?_
            refine on 7 [3, 4] (OpS.st rfl) ?_
            refine dn hb ?_
            exact Run.at [1, 0, 4, 3] [3, 4, 0, 2] su (by decide)
        ·
          refine on1 6 [1, 2] (OpS.st rfl) ?_
          refine on 4 [3, 4] (ix (xs := p0.Slots) ((impl_BestSlot p0).toNat) om (hi := om)) ?_
          refine on 5 [3, 4] (OpS.st rfl) ?_
          refine on 7 [3, 4] (OpS.st rfl) ?_
          refine dn hb ?_
          exact Run.at [1, 0, 2, 4] [3, 4, 2, 1] su (by decide)
      ·
        refine on1 6 [1, 2] (OpS.st rfl) ?_
        refine on 3 [1, 2] (cl (c_impl_BestSlot p0) fok89) ?_
        refine on 4 [3, 4] (ix (xs := p0.Slots) ((impl_BestSlot p0).toNat) om (hi := om)) ?_
        refine on 5 [3, 4] (OpS.st rfl) ?_
        refine on 7 [3, 4] (OpS.st rfl) ?_
        refine dn hb ?_
        exact Run.at [1, 0, 2, 4] [3, 4, 2, 1] su (by decide)
    refine ad 8 ?_
    refine og (clg (c_impl_RecordsIn p0.Journal.Text (IntKind.i64.wrap (((nth p0.Slots ((impl_BestSlot p0).toNat)).Seq) + 1)) (by first | assumption | omega | exact om)) fok90) fun hgq => ?_
    obtain ⟨hg5, _⟩ := hgq
    refine ad 10 ?_
    refine og (clg (c_slices_Clone_Cell ((nth p0.Slots ((impl_BestSlot p0).toNat)).Cells) (by first | assumption | omega | exact om)) fok91) fun hgq => ?_
    obtain ⟨hg6, _⟩ := hgq
    refine ad 10 ?_
    refine fz 4 ?_
    refine Run.loopM (ι := (List Cell) × Nat) (fun s => impl_Recovered_l1 p0 ((((impl_RecordsIn p0.Journal.Text (IntKind.i64.wrap (((nth p0.Slots ((impl_BestSlot p0).toNat)).Seq) + 1))).1).length) - s.2) s.1 s.2) (fun s => ⟨60, 4, [(4, .pt 0 0), (5, .sl 2 (((impl_RecordsIn p0.Journal.Text (IntKind.i64.wrap (((nth p0.Slots ((impl_BestSlot p0).toNat)).Seq) + 1))).1).length)), (7, .sl 3 s.1.length), (34, .sl 2 (((impl_RecordsIn p0.Journal.Text (IntKind.i64.wrap (((nth p0.Slots ((impl_BestSlot p0).toNat)).Seq) + 1))).1).length)), (35, .v (.int .i64 (((impl_RecordsIn p0.Journal.Text (IntKind.i64.wrap (((nth p0.Slots ((impl_BestSlot p0).toNat)).Seq) + 1))).1).length : Int))), (36, .v (.int .i64 (s.2 : Int)))], [(0, .var [.v (.int .i64 ((nth p0.Slots ((impl_BestSlot p0).toNat)).Seq)), .sl 1 ((nth p0.Slots ((impl_BestSlot p0).toNat)).Cells.length), .v (.bool ((nth p0.Slots ((impl_BestSlot p0).toNat)).Whole))] 108), (1, .ros Cell instDatCell ((nth p0.Slots ((impl_BestSlot p0).toNat)).Cells)), (2, .ros (List Cell) (@instDatList _ instDatCell) ((impl_RecordsIn p0.Journal.Text (IntKind.i64.wrap (((nth p0.Slots ((impl_BestSlot p0).toNat)).Seq) + 1))).1)), (3, .own Cell instDatCell s.1)]⟩) (fun s => s.2 ≤ ((impl_RecordsIn p0.Journal.Text (IntKind.i64.wrap (((nth p0.Slots ((impl_BestSlot p0).toNat)).Seq) + 1))).1).length ∧ s.1.length ≤ 900 + 4001 * s.2) (fun s => (((impl_RecordsIn p0.Journal.Text (IntKind.i64.wrap (((nth p0.Slots ((impl_BestSlot p0).toNat)).Seq) + 1))).1).length) - s.2) ((slices_Clone_Cell ((nth p0.Slots ((impl_BestSlot p0).toNat)).Cells)), 0) [2, 3, 4, 5] [4, 5, 1, 0] hM (by exact ⟨by (try dsimp only); omega, by (try dsimp only); omega⟩) su (by decide) ?_
    rintro ⟨v7, i⟩ hv hE
    try dsimp only at hE
    obtain ⟨hi, hv0⟩ := hv
    try dsimp only at hi hv0
    refine ad 5 ?_
    refine cd (fun h7 => ?_) (fun h7 => ?_)
    ·
      have h7l : i < ((impl_RecordsIn p0.Journal.Text (IntKind.i64.wrap (((nth p0.Slots ((impl_BestSlot p0).toNat)).Seq) + 1))).1).length := by have := of_decide_eq_true h7; omega
      have hM := hE.trans ((congrArg (fun n => impl_Recovered_l1 p0 n v7 i) (show (((impl_RecordsIn p0.Journal.Text (IntKind.i64.wrap (((nth p0.Slots ((impl_BestSlot p0).toNat)).Seq) + 1))).1).length) - i = ((((impl_RecordsIn p0.Journal.Text (IntKind.i64.wrap (((nth p0.Slots ((impl_BestSlot p0).toNat)).Seq) + 1))).1).length) - (i + 1)) + 1 by omega)).trans (impl_Recovered_l1.eq_2 _ _ _ _))
      have hrk := hri.2 i
      refine ad 5 ?_
      have hg9 := good_nth (k := i) hg5 om
      refine op (ix (xs := (impl_RecordsIn p0.Journal.Text (IntKind.i64.wrap (((nth p0.Slots ((impl_BestSlot p0).toNat)).Seq) + 1))).1) i om) ?_
      refine ad 10 ?_
      refine Run.loopkM (ι := (List Cell) × Nat) (κ := (List Cell)) (fun k s => impl_Recovered_l2 p0 v7 i k (((nth ((impl_RecordsIn p0.Journal.Text (IntKind.i64.wrap (((nth p0.Slots ((impl_BestSlot p0).toNat)).Seq) + 1))).1) i).length) - s.2) s.1 s.2) (fun s => ⟨60, 5, [(4, .pt 0 0), (5, .sl 2 (((impl_RecordsIn p0.Journal.Text (IntKind.i64.wrap (((nth p0.Slots ((impl_BestSlot p0).toNat)).Seq) + 1))).1).length)), (7, .sl 4 s.1.length), (34, .sl 2 (((impl_RecordsIn p0.Journal.Text (IntKind.i64.wrap (((nth p0.Slots ((impl_BestSlot p0).toNat)).Seq) + 1))).1).length)), (35, .v (.int .i64 (((impl_RecordsIn p0.Journal.Text (IntKind.i64.wrap (((nth p0.Slots ((impl_BestSlot p0).toNat)).Seq) + 1))).1).length : Int))), (36, .v (.int .i64 (i : Int))), (40, .sl 3 ((nth ((impl_RecordsIn p0.Journal.Text (IntKind.i64.wrap (((nth p0.Slots ((impl_BestSlot p0).toNat)).Seq) + 1))).1) i).length)), (41, .v (.int .i64 ((nth ((impl_RecordsIn p0.Journal.Text (IntKind.i64.wrap (((nth p0.Slots ((impl_BestSlot p0).toNat)).Seq) + 1))).1) i).length : Int))), (42, .v (.int .i64 (s.2 : Int)))], [(0, .var [.v (.int .i64 ((nth p0.Slots ((impl_BestSlot p0).toNat)).Seq)), .sl 1 ((nth p0.Slots ((impl_BestSlot p0).toNat)).Cells.length), .v (.bool ((nth p0.Slots ((impl_BestSlot p0).toNat)).Whole))] 108), (1, .ros Cell instDatCell ((nth p0.Slots ((impl_BestSlot p0).toNat)).Cells)), (2, .ros (List Cell) (@instDatList _ instDatCell) ((impl_RecordsIn p0.Journal.Text (IntKind.i64.wrap (((nth p0.Slots ((impl_BestSlot p0).toNat)).Seq) + 1))).1)), (3, .ros Cell instDatCell (nth ((impl_RecordsIn p0.Journal.Text (IntKind.i64.wrap (((nth p0.Slots ((impl_BestSlot p0).toNat)).Seq) + 1))).1) i)), (4, .own Cell instDatCell s.1)]⟩) (fun s => s.2 ≤ (nth ((impl_RecordsIn p0.Journal.Text (IntKind.i64.wrap (((nth p0.Slots ((impl_BestSlot p0).toNat)).Seq) + 1))).1) i).length ∧ s.1.length ≤ v7.length + s.2) (fun s => ((nth ((impl_RecordsIn p0.Journal.Text (IntKind.i64.wrap (((nth p0.Slots ((impl_BestSlot p0).toNat)).Seq) + 1))).1) i).length) - s.2) (fun e => ⟨60, 4, [(4, .pt 0 0), (5, .sl 2 (((impl_RecordsIn p0.Journal.Text (IntKind.i64.wrap (((nth p0.Slots ((impl_BestSlot p0).toNat)).Seq) + 1))).1).length)), (7, .sl 3 e.length), (34, .sl 2 (((impl_RecordsIn p0.Journal.Text (IntKind.i64.wrap (((nth p0.Slots ((impl_BestSlot p0).toNat)).Seq) + 1))).1).length)), (35, .v (.int .i64 (((impl_RecordsIn p0.Journal.Text (IntKind.i64.wrap (((nth p0.Slots ((impl_BestSlot p0).toNat)).Seq) + 1))).1).length : Int))), (36, .v (.int .i64 (i : Int)))], [(0, .var [.v (.int .i64 ((nth p0.Slots ((impl_BestSlot p0).toNat)).Seq)), .sl 1 ((nth p0.Slots ((impl_BestSlot p0).toNat)).Cells.length), .v (.bool ((nth p0.Slots ((impl_BestSlot p0).toNat)).Whole))] 108), (1, .ros Cell instDatCell ((nth p0.Slots ((impl_BestSlot p0).toNat)).Cells)), (2, .ros (List Cell) (@instDatList _ instDatCell) ((impl_RecordsIn p0.Journal.Text (IntKind.i64.wrap (((nth p0.Slots ((impl_BestSlot p0).toNat)).Seq) + 1))).1)), (3, .own Cell instDatCell e)]⟩) (fun e => e.length ≤ v7.length + (nth (impl_RecordsIn p0.Journal.Text (IntKind.i64.wrap (((nth p0.Slots ((impl_BestSlot p0).toNat)).Seq) + 1))).1 i).length) (v7, 0) [0, 1, 2, 5, 3] [2, 3, 4, 1, 5] hM (by exact ⟨by (try dsimp only); omega, by (try dsimp only); omega⟩) su (by decide) ?_ ?_
      ·
        rintro ev7_2 hv hM
        try dsimp only at hM hv ⊢
        refine ad 3 ?_
        rw [wrapN (i := i) (by first | omega | exact om)]
        refine ad 2 ?_
        exact Run.again (ev7_2, (i + 1)) [0, 1, 2, 3] [0, 1, 2, 3] ⟨by exact ⟨by (try dsimp only); omega, by (try dsimp only); omega⟩, hM⟩ rfl (by show _ - _ < _ - _; (try dsimp only); omega) su (by decide)
      ·
        intro k_2 hk_2
        rintro ⟨v7_2, i_2⟩ hv_2 hE
        try dsimp only at hE
        obtain ⟨hi_2, hv_2_0⟩ := hv_2
        try dsimp only at hi_2 hv_2_0
        refine ad 5 ?_
        refine cd (fun h10 => ?_) (fun h10 => ?_)
        ·
          have h10l : i_2 < (nth ((impl_RecordsIn p0.Journal.Text (IntKind.i64.wrap (((nth p0.Slots ((impl_BestSlot p0).toNat)).Seq) + 1))).1) i).length := by have := of_decide_eq_true h10; omega
          have hM := hE.trans ((congrArg (fun n => impl_Recovered_l2 p0 v7 i k_2 n v7_2 i_2) (show ((nth ((impl_RecordsIn p0.Journal.Text (IntKind.i64.wrap (((nth p0.Slots ((impl_BestSlot p0).toNat)).Seq) + 1))).1) i).length) - i_2 = (((nth ((impl_RecordsIn p0.Journal.Text (IntKind.i64.wrap (((nth p0.Slots ((impl_BestSlot p0).toNat)).Seq) + 1))).1) i).length) - (i_2 + 1)) + 1 by omega)).trans (impl_Recovered_l2.eq_2 _ _ _ _ _ _ _))
          have hgc := good_nth (k := i_2) (good_nth (k := i) hg5 om) om
          have hgk : (nth (nth (impl_RecordsIn p0.Journal.Text (IntKind.i64.wrap (((nth p0.Slots ((impl_BestSlot p0).toNat)).Seq) + 1))).1 i) i_2).Key.size ≤ 9223372036854775807 := hgc.1
          have hgv : (nth (nth (impl_RecordsIn p0.Journal.Text (IntKind.i64.wrap (((nth p0.Slots ((impl_BestSlot p0).toNat)).Seq) + 1))).1 i) i_2).Val.size ≤ 9223372036854775807 := hgc.2
          have hpl := impl_put_len v7_2 (nth (nth (impl_RecordsIn p0.Journal.Text (IntKind.i64.wrap (((nth p0.Slots ((impl_BestSlot p0).toNat)).Seq) + 1))).1 i) i_2).Key (nth (nth (impl_RecordsIn p0.Journal.Text (IntKind.i64.wrap (((nth p0.Slots ((impl_BestSlot p0).toNat)).Seq) + 1))).1 i) i_2).Val (by omega)
          refine ad 5 ?_
          have hg12 := good_nth (k := i_2) hg9 om
          refine op (ix (xs := (nth ((impl_RecordsIn p0.Journal.Text (IntKind.i64.wrap (((nth p0.Slots ((impl_BestSlot p0).toNat)).Seq) + 1))).1) i)) i_2 om) ?_
          refine ad 10 ?_
          refine og (cm [4] [] [6] [] [0, 1, 2, 3, 4, 5] (c_impl_put v7_2 ((nth (nth ((impl_RecordsIn p0.Journal.Text (IntKind.i64.wrap (((nth p0.Slots ((impl_BestSlot p0).toNat)).Seq) + 1))).1) i) i_2).Key) ((nth (nth ((impl_RecordsIn p0.Journal.Text (IntKind.i64.wrap (((nth p0.Slots ((impl_BestSlot p0).toNat)).Seq) + 1))).1) i) i_2).Val) hg12.1 (by first | assumption | omega | exact om) (by first | assumption | omega | exact om) (by first | assumption | omega | exact om)) fok92) fun _ => ?_
          refine ad 5 ?_
          rw [wrapN (i := i_2) (by first | omega | exact om)]
          refine ad 2 ?_
          exact Run.again ((impl_put v7_2 ((nth (nth ((impl_RecordsIn p0.Journal.Text (IntKind.i64.wrap (((nth p0.Slots ((impl_BestSlot p0).toNat)).Seq) + 1))).1) i) i_2).Key) ((nth (nth ((impl_RecordsIn p0.Journal.Text (IntKind.i64.wrap (((nth p0.Slots ((impl_BestSlot p0).toNat)).Seq) + 1))).1) i) i_2).Val)), (i_2 + 1)) [0, 1, 2, 3, 7] [3, 4, 5, 6, 0] ⟨by exact ⟨by (try dsimp only); omega, by (try dsimp only); omega⟩, hM⟩ rfl (by show _ - _ < _ - _; (try dsimp only); omega) su (by decide)
        ·
          have h10l : ¬ (i_2 < (nth ((impl_RecordsIn p0.Journal.Text (IntKind.i64.wrap (((nth p0.Slots ((impl_BestSlot p0).toNat)).Seq) + 1))).1) i).length) := by have := of_decide_eq_false h10; omega
          have hM := hE.trans ((congrArg (fun n => impl_Recovered_l2 p0 v7 i k_2 n v7_2 i_2) (show ((nth ((impl_RecordsIn p0.Journal.Text (IntKind.i64.wrap (((nth p0.Slots ((impl_BestSlot p0).toNat)).Seq) + 1))).1) i).length) - i_2 = 0 by omega)).trans (impl_Recovered_l2.eq_1 _ _ _ _ _ _))
          refine ad 1 ?_
          exact Run.exitkM hk_2 v7_2 [0, 1, 2, 4] [0, 1, 2, 4] hM (by ((try dsimp only); omega)) su (by decide)
    ·
      have h7l : ¬ (i < ((impl_RecordsIn p0.Journal.Text (IntKind.i64.wrap (((nth p0.Slots ((impl_BestSlot p0).toNat)).Seq) + 1))).1).length) := by have := of_decide_eq_false h7; omega
      have hM := hE.trans ((congrArg (fun n => impl_Recovered_l1 p0 n v7 i) (show (((impl_RecordsIn p0.Journal.Text (IntKind.i64.wrap (((nth p0.Slots ((impl_BestSlot p0).toNat)).Seq) + 1))).1).length) - i = 0 by omega)).trans (impl_Recovered_l1.eq_1 _ _ _))
      refine ad 2 ?_
      refine dr 8 fun _ _ _ _ _ hb => ?_
      refine tk [0, 1, 2, 3, 4, 5, 6, 7] ?_
      refine dn hb ?_
      exact rz (rs := [.tmp 2, .tmp 3]) (congrArg (fun x => [Re.sl Cell instDatCell x.1, Re.c (.int .i64 x.2)]) hM)

/- F36 loop.example/g00974/spec.Recovered -/
def spec_Recovered_l1 (p0 : Disk) : Nat → (List Cell) → Nat → (List Cell) × Int
  | 0, v5, i => (v5, IntKind.i64.wrap (((nth p0.Slots ((spec_BestSlot p0).toNat)).Seq) + (((spec_RecordsIn p0.Journal.Text (IntKind.i64.wrap (((nth p0.Slots ((spec_BestSlot p0).toNat)).Seq) + 1))).1).length : Int)))
  | n + 1, v5, i => spec_Recovered_l1 p0 n (spec_ApplyRecord v5 (nth ((spec_RecordsIn p0.Journal.Text (IntKind.i64.wrap (((nth p0.Slots ((spec_BestSlot p0).toNat)).Seq) + 1))).1) i)) (i + 1)
def spec_Recovered (p0 : Disk) : (List Cell) × Int := bif !(spec_DiskOk p0) then (([] : List Cell), 0) else (spec_Recovered_l1 p0 ((((spec_RecordsIn p0.Journal.Text (IntKind.i64.wrap (((nth p0.Slots ((spec_BestSlot p0).toNat)).Seq) + 1))).1).length) - 0) (([] : List Cell) ++ ((nth p0.Slots ((spec_BestSlot p0).toNat)).Cells)) 0)
theorem c_spec_Recovered (p0 : Disk) : CTs 36 [.o (.st Disk _ inferInstance p0)] [Re.sl Cell instDatCell ((spec_Recovered p0).1), Re.c (.int .i64 ((spec_Recovered p0).2))] := by
  refine en Tryz.func36 Tryz.ntmps36 fun w hG hgd => ?_
  obtain ⟨hg_p0, _⟩ := hgd
  have hM := spec_Recovered.eq_1 p0
  refine ad 10 ?_
  refine op (cl (c_spec_DiskOk p0) fok79) ?_
  refine ad 2 ?_
  refine cd (fun h1 => ?_) (fun h1 => ?_)
  ·
    have hM := hM.trans (bt h1)
    refine ad 2 ?_
    refine op (l0) ?_
    refine ad 3 ?_
    refine li 2 (d := instDatCell) ([] : List Cell) ?_
    exact rz (rs := [.tmp 2, .tmp 3]) (congrArg (fun x => [Re.sl Cell instDatCell x.1, Re.c (.int .i64 x.2)]) hM)
  ·
    have hM := hM.trans (bf h1)
    have hdk := spec_DiskOk_t (by simpa using h1)
    have hri := spec_RecordsIn_len p0.Journal.Text (IntKind.i64.wrap (((nth p0.Slots ((spec_BestSlot p0).toNat)).Seq) + 1))
    have hrl : (spec_RecordsIn p0.Journal.Text (IntKind.i64.wrap (((nth p0.Slots ((spec_BestSlot p0).toNat)).Seq) + 1))).1.length ≤ 20001 := by omega
    refine ad 2 ?_
    refine Run.mid ⟨51, 4, [(1, .pt 0 0), (4, .pt 2 0)], [(0, .var [.sl 1 p0.Slots.length, .v (.string p0.Journal.Text), .v (.int .i64 p0.Journal.Sure)] 40), (1, .ros Slot instDatSlot p0.Slots), (2, .var [.v (.int .i64 ((nth p0.Slots ((spec_BestSlot p0).toNat)).Seq)), .sl 3 ((nth p0.Slots ((spec_BestSlot p0).toNat)).Cells.length), .v (.bool ((nth p0.Slots ((spec_BestSlot p0).toNat)).Whole))] 108), (3, .ros Cell instDatCell ((nth p0.Slots ((spec_BestSlot p0).toNat)).Cells))]⟩ ?_ ?_
    ·
      refine dr 8 fun _ _ _ _ _ hb => ?_
      refine tk [0, 1, 2] ?_
      refine o2 3 6 ?_ ?_
      ·
        refine on1 3 [0, 1] (cl (c_spec_BestSlot p0) fok80) ?_
        refine o2 4 6 ?_ ?_
        ·
          refine on1 4 [2, 3] (ix (xs := p0.Slots) ((spec_BestSlot p0).toNat) om (hi := om)) ?_
          refine o2 5 6 ?_ ?_
          ·
            refine on1 5 [2, 3] (OpS.st rfl) ?_
            refine on 6 [3, 4] (OpS.st rfl) ?_
            refine on 7 [3, 4] (OpS.st rfl) ?_
            refine dn hb ?_
            exact Run.at [1, 0, 4, 3] [3, 4, 0, 2] su (by decide)
          ·
            refine on1 6 [3, 4] (OpS.st rfl) ?_
            refine on 5 [3, 4] (OpS.st rfl) ?_
            refine on 7 [3, 4] (OpS.st rfl) ?_
            refine dn hb ?_
            exact Run.at [1, 0, 4, 3] [3, 4, 0, 2] su (by decide)
        ·
          refine on1 6 [1, 2] (OpS.st rfl) ?_
          refine on 4 [3, 4] (ix (xs := p0.Slots) ((spec_BestSlot p0).toNat) om (hi := om)) ?_
          refine on 5 [3, 4] (OpS.st rfl) ?_
          refine on 7 [3, 4] (OpS.st rfl) ?_
          refine dn hb ?_
          exact Run.at [1, 0, 2, 4] [3, 4, 2, 1] su (by decide)
      ·
        refine on1 6 [1, 2] (OpS.st rfl) ?_
        refine on 3 [1, 2] (cl (c_spec_BestSlot p0) fok80) ?_
        refine on 4 [3, 4] (ix (xs := p0.Slots) ((spec_BestSlot p0).toNat) om (hi := om)) ?_
        refine on 5 [3, 4] (OpS.st rfl) ?_
        refine on 7 [3, 4] (OpS.st rfl) ?_
        refine dn hb ?_
        exact Run.at [1, 0, 2, 4] [3, 4, 2, 1] su (by decide)
    refine ad 2 ?_
    refine op (l0) ?_
    refine ad 2 ?_
    refine li 4 (d := instDatCell) ([] : List Cell) ?_
    refine op (aS (dα := instDatCell) (e := 114) (by' := 32) ([] : List Cell) ((nth p0.Slots ((spec_BestSlot p0).toNat)).Cells) [4] (hb := by (try simp only [List.length_append, List.length_cons, List.length_nil]); first | omega | exact om) (hm := by (try simp only [List.length_append, List.length_cons, List.length_nil]); first | omega | exact om)) ?_
    refine ad 10 ?_
    refine og (clg (c_spec_RecordsIn p0.Journal.Text (IntKind.i64.wrap (((nth p0.Slots ((spec_BestSlot p0).toNat)).Seq) + 1)) hg_p0.2.1 (by first | assumption | omega | exact om)) fok81) fun hgq => ?_
    obtain ⟨hg5, _⟩ := hgq
    refine ad 12 ?_
    refine fz 6 ?_
    refine Run.loopM (ι := (List Cell) × Nat) (fun s => spec_Recovered_l1 p0 ((((spec_RecordsIn p0.Journal.Text (IntKind.i64.wrap (((nth p0.Slots ((spec_BestSlot p0).toNat)).Seq) + 1))).1).length) - s.2) s.1 s.2) (fun s => ⟨51, 4, [(4, .pt 0 0), (5, .sl 3 s.1.length), (6, .sl 2 (((spec_RecordsIn p0.Journal.Text (IntKind.i64.wrap (((nth p0.Slots ((spec_BestSlot p0).toNat)).Seq) + 1))).1).length)), (8, .v (.int .i64 (s.2 : Int)))], [(0, .var [.v (.int .i64 ((nth p0.Slots ((spec_BestSlot p0).toNat)).Seq)), .sl 1 ((nth p0.Slots ((spec_BestSlot p0).toNat)).Cells.length), .v (.bool ((nth p0.Slots ((spec_BestSlot p0).toNat)).Whole))] 108), (1, .ros Cell instDatCell ((nth p0.Slots ((spec_BestSlot p0).toNat)).Cells)), (2, .ros (List Cell) (@instDatList _ instDatCell) ((spec_RecordsIn p0.Journal.Text (IntKind.i64.wrap (((nth p0.Slots ((spec_BestSlot p0).toNat)).Seq) + 1))).1)), (3, .own Cell instDatCell s.1)]⟩) (fun s => s.2 ≤ ((spec_RecordsIn p0.Journal.Text (IntKind.i64.wrap (((nth p0.Slots ((spec_BestSlot p0).toNat)).Seq) + 1))).1).length ∧ s.1.length ≤ 900 + 4001 * s.2) (fun s => (((spec_RecordsIn p0.Journal.Text (IntKind.i64.wrap (((nth p0.Slots ((spec_BestSlot p0).toNat)).Seq) + 1))).1).length) - s.2) ((([] : List Cell) ++ ((nth p0.Slots ((spec_BestSlot p0).toNat)).Cells)), 0) [2, 3, 6, 5] [4, 5, 0, 1] hM (by exact ⟨by (try dsimp only); omega, by (try dsimp only); (try rw [List.nil_append]); omega⟩) su (by decide) ?_
    rintro ⟨v5, i⟩ hv hE
    try dsimp only at hE
    obtain ⟨hi, hv0⟩ := hv
    try dsimp only at hi hv0
    refine ad 8 ?_
    refine cd (fun h6 => ?_) (fun h6 => ?_)
    ·
      have h6l : i < ((spec_RecordsIn p0.Journal.Text (IntKind.i64.wrap (((nth p0.Slots ((spec_BestSlot p0).toNat)).Seq) + 1))).1).length := by have := of_decide_eq_true h6; omega
      have hM := hE.trans ((congrArg (fun n => spec_Recovered_l1 p0 n v5 i) (show (((spec_RecordsIn p0.Journal.Text (IntKind.i64.wrap (((nth p0.Slots ((spec_BestSlot p0).toNat)).Seq) + 1))).1).length) - i = ((((spec_RecordsIn p0.Journal.Text (IntKind.i64.wrap (((nth p0.Slots ((spec_BestSlot p0).toNat)).Seq) + 1))).1).length) - (i + 1)) + 1 by omega)).trans (spec_Recovered_l1.eq_2 _ _ _ _))
      have hrk := hri.2 i
      have hal := spec_ApplyRecord_len v5 (nth (spec_RecordsIn p0.Journal.Text (IntKind.i64.wrap (((nth p0.Slots ((spec_BestSlot p0).toNat)).Seq) + 1))).1 i)
      refine ad 7 ?_
      have hg8 := good_nth (k := i) hg5 om
      refine op (ix (xs := (spec_RecordsIn p0.Journal.Text (IntKind.i64.wrap (((nth p0.Slots ((spec_BestSlot p0).toNat)).Seq) + 1))).1) i om) ?_
      refine ad 1 ?_
      refine og (clg (c_spec_ApplyRecord v5 (nth ((spec_RecordsIn p0.Journal.Text (IntKind.i64.wrap (((nth p0.Slots ((spec_BestSlot p0).toNat)).Seq) + 1))).1) i) (by first | assumption | omega | exact om)) fok82) fun hgq => ?_
      obtain ⟨hg9, _⟩ := hgq
      refine ad 6 ?_
      rw [wrapN (i := i) (by first | omega | exact om)]
      refine ad 2 ?_
      exact Run.again ((spec_ApplyRecord v5 (nth ((spec_RecordsIn p0.Journal.Text (IntKind.i64.wrap (((nth p0.Slots ((spec_BestSlot p0).toNat)).Seq) + 1))).1) i)), (i + 1)) [0, 1, 2, 6] [3, 4, 5, 0] ⟨by exact ⟨by (try dsimp only); omega, by (try dsimp only); omega⟩, hM⟩ rfl (by show _ - _ < _ - _; (try dsimp only); omega) su (by decide)
    ·
      have h6l : ¬ (i < ((spec_RecordsIn p0.Journal.Text (IntKind.i64.wrap (((nth p0.Slots ((spec_BestSlot p0).toNat)).Seq) + 1))).1).length) := by have := of_decide_eq_false h6; omega
      have hM := hE.trans ((congrArg (fun n => spec_Recovered_l1 p0 n v5 i) (show (((spec_RecordsIn p0.Journal.Text (IntKind.i64.wrap (((nth p0.Slots ((spec_BestSlot p0).toNat)).Seq) + 1))).1).length) - i = 0 by omega)).trans (spec_Recovered_l1.eq_1 _ _ _))
      refine ad 2 ?_
      refine dr 8 fun _ _ _ _ _ hb => ?_
      refine tk [0, 1, 2, 3, 4, 5, 6, 7] ?_
      refine dn hb ?_
      exact rz (rs := [.tmp 2, .tmp 3]) (congrArg (fun x => [Re.sl Cell instDatCell x.1, Re.c (.int .i64 x.2)]) hM)

/- F12 loop.example/g00974/impl.AuditStore -/
def impl_AuditStore (p0 : Kernel) : Bool := (impl_SameStore ((impl_Recovered p0.Disk).1) p0.Store) && (decide (((impl_Recovered p0.Disk).2) = p0.Seq))
theorem c_impl_AuditStore (p0 : Kernel) : CTs 12 [.o (.st Kernel _ inferInstance p0)] [Re.c (.bool (impl_AuditStore p0))] := by
  refine en Tryz.func12 Tryz.ntmps12 fun w hG hgd => ?_
  obtain ⟨hg_p0, _⟩ := hgd
  have hM := impl_AuditStore.eq_1 p0
  refine ad 9 ?_
  have hg1 : Dat.good (p0.Disk : Disk) := hg_p0.2.2.1
  refine og (clg (c_impl_Recovered p0.Disk) fok43) fun hgq => ?_
  obtain ⟨hg2, _⟩ := hgq
  refine ad 11 ?_
  refine op (cl (c_impl_SameStore ((impl_Recovered p0.Disk).1) p0.Store) fok44) ?_
  refine ad 1 ?_
  refine ag 5 ?_
  refine ad 2 ?_
  exact rz (rs := [.tmp 2]) (congrArg (fun x => [Re.c (.bool x)]) hM)

/- F10 loop.example/g00974/spec.AuditStore -/
def spec_AuditStore (p0 : Kernel) : Bool := (spec_SameStore ((spec_Recovered p0.Disk).1) p0.Store) && (decide (((spec_Recovered p0.Disk).2) = p0.Seq))
theorem c_spec_AuditStore (p0 : Kernel) : CTs 10 [.o (.st Kernel _ inferInstance p0)] [Re.c (.bool (spec_AuditStore p0))] := by
  refine en Tryz.func10 Tryz.ntmps10 fun w hG hgd => ?_
  obtain ⟨hg_p0, _⟩ := hgd
  have hM := spec_AuditStore.eq_1 p0
  refine ad 9 ?_
  have hg1 : Dat.good (p0.Disk : Disk) := hg_p0.2.2.1
  refine og (clg (c_spec_Recovered p0.Disk) fok36) fun hgq => ?_
  obtain ⟨hg2, _⟩ := hgq
  refine ad 11 ?_
  refine op (cl (c_spec_SameStore ((spec_Recovered p0.Disk).1) p0.Store) fok37) ?_
  refine ad 1 ?_
  refine ag 5 ?_
  refine ad 2 ?_
  exact rz (rs := [.tmp 2]) (congrArg (fun x => [Re.c (.bool x)]) hM)

end Go.Proofs.YtppialklomgajaaGreatDoor.Fw
/- Contracts: each call returns what the model says. By program (wip/am/gen2.py). -/
namespace Go.Proofs.YtppialklomgajaaGreatDoor.Fw
open Go.RowKit
set_option linter.unusedVariables false
set_option linter.unusedSimpArgs false
set_option maxRecDepth 100000

theorem fok31 : FnOk Tryz.prog 31 := ⟨_, Tryz.func31, rfl, by kernel_rfl⟩
theorem fok32 : FnOk Tryz.prog 32 := ⟨_, Tryz.func32, rfl, by kernel_rfl⟩
theorem fok33 : FnOk Tryz.prog 33 := ⟨_, Tryz.func33, rfl, by kernel_rfl⟩
theorem fok34 : FnOk Tryz.prog 34 := ⟨_, Tryz.func34, rfl, by kernel_rfl⟩
theorem fok35 : FnOk Tryz.prog 35 := ⟨_, Tryz.func35, rfl, by kernel_rfl⟩
theorem fok74 : FnOk Tryz.prog 74 := ⟨_, Tryz.func74, rfl, by kernel_rfl⟩
theorem fok75 : FnOk Tryz.prog 75 := ⟨_, Tryz.func75, rfl, by kernel_rfl⟩
theorem fok76 : FnOk Tryz.prog 76 := ⟨_, Tryz.func76, rfl, by kernel_rfl⟩
theorem fok77 : FnOk Tryz.prog 77 := ⟨_, Tryz.func77, rfl, by kernel_rfl⟩
theorem fok78 : FnOk Tryz.prog 78 := ⟨_, Tryz.func78, rfl, by kernel_rfl⟩
theorem fok140 : FnOk Tryz.prog 140 := ⟨_, Tryz.func140, rfl, by kernel_rfl⟩
theorem fok141 : FnOk Tryz.prog 141 := ⟨_, Tryz.func141, rfl, by kernel_rfl⟩
theorem fok142 : FnOk Tryz.prog 142 := ⟨_, Tryz.func142, rfl, by kernel_rfl⟩
theorem fok143 : FnOk Tryz.prog 143 := ⟨_, Tryz.func143, rfl, by kernel_rfl⟩
theorem fok144 : FnOk Tryz.prog 144 := ⟨_, Tryz.func144, rfl, by kernel_rfl⟩
theorem fok145 : FnOk Tryz.prog 145 := ⟨_, Tryz.func145, rfl, by kernel_rfl⟩
theorem fok206 : FnOk Tryz.prog 206 := ⟨_, Tryz.func206, rfl, by kernel_rfl⟩
theorem fok207 : FnOk Tryz.prog 207 := ⟨_, Tryz.func207, rfl, by kernel_rfl⟩
theorem fok208 : FnOk Tryz.prog 208 := ⟨_, Tryz.func208, rfl, by kernel_rfl⟩
/- F74 loop.example/g00974/laws.szCell -/
def laws_szCell (p0 : Cell) (p1 : Int) : Int := bif decide ((IntKind.i64.wrap (p1 - (p0.Key.size : Int))) < 0) then (-1) else (bif decide ((IntKind.i64.wrap ((IntKind.i64.wrap (p1 - (p0.Key.size : Int))) - (p0.Val.size : Int))) < 0) then (-1) else (IntKind.i64.wrap ((IntKind.i64.wrap (p1 - (p0.Key.size : Int))) - (p0.Val.size : Int))))
theorem c_laws_szCell (p0 : Cell) (p1 : Int) : CTs 74 [.o (.st Cell _ inferInstance p0), .o (.c (.int .i64 p1))] [Re.c (.int .i64 (laws_szCell p0 p1))] := by
  refine en Tryz.func74 Tryz.ntmps74 fun w hG hgd => ?_
  obtain ⟨hg_p0, _⟩ := hgd
  have hM := laws_szCell.eq_1 p0 p1
  refine ad 20 ?_
  refine cd (fun h1 => ?_) (fun h1 => ?_)
  ·
    have hM := hM.trans (bt h1)
    refine ad 4 ?_
    exact rz (rs := [.tmp 4]) (congrArg (fun x => [Re.c (.int .i64 x)]) hM)
  ·
    have hM := hM.trans (bf h1)
    refine ad 16 ?_
    refine cd (fun h2 => ?_) (fun h2 => ?_)
    ·
      have hM := hM.trans (bt h2)
      refine ad 4 ?_
      exact rz (rs := [.tmp 4]) (congrArg (fun x => [Re.c (.int .i64 x)]) hM)
    ·
      have hM := hM.trans (bf h2)
      refine ad 6 ?_
      exact rz (rs := [.tmp 4]) (congrArg (fun x => [Re.c (.int .i64 x)]) hM)

/- F31 loop.example/g00974/laws.szCellS -/
def laws_szCellS_l1 (p0 : List Cell) (p1 : Int) : Nat → Int → Nat → Int
  | 0, v1, i => v1
  | n + 1, v1, i => bif decide ((laws_szCell (nth p0 i) v1) < 0) then (-1) else (laws_szCellS_l1 p0 p1 n (laws_szCell (nth p0 i) v1) (i + 1))
def laws_szCellS (p0 : List Cell) (p1 : Int) : Int := bif decide ((IntKind.i64.wrap (p1 - (p0.length : Int))) < 0) then (-1) else (laws_szCellS_l1 p0 p1 (p0.length - 0) (IntKind.i64.wrap (p1 - (p0.length : Int))) 0)
theorem c_laws_szCellS (p0 : List Cell) (p1 : Int) : CTs 31 [.o (.sl Cell instDatCell p0), .o (.c (.int .i64 p1))] [Re.c (.int .i64 (laws_szCellS p0 p1))] := by
  refine en Tryz.func31 Tryz.ntmps31 fun w hG hgd => ?_
  obtain ⟨hg_p0, _⟩ := hgd
  have hl_p0 : p0.length ≤ 9223372036854775807 := hg_p0.1
  have hM := laws_szCellS.eq_1 p0 p1
  refine ad 18 ?_
  refine cd (fun h1 => ?_) (fun h1 => ?_)
  ·
    have hM := hM.trans (bt h1)
    refine ad 4 ?_
    exact rz (rs := [.tmp 4]) (congrArg (fun x => [Re.c (.int .i64 x)]) hM)
  ·
    have hM := hM.trans (bf h1)
    refine ad 7 ?_
    refine Run.loopM (ι := Int × Nat) (fun s => laws_szCellS_l1 p0 p1 (p0.length - s.2) s.1 s.2) (fun s => ⟨27, 1, [(0, .sl 0 p0.length), (1, .v (.int .i64 s.1)), (5, .v (.int .i64 (s.2 : Int)))], [(0, .ros Cell instDatCell p0)]⟩) (fun s => s.2 ≤ p0.length) (fun s => p0.length - s.2) (IntKind.i64.wrap (p1 - (p0.length : Int)), 0) [0] [0] hM (by first | exact ⟨by omega, by simp⟩ | omega | simp | (dsimp only; omega)) su (by decide) ?_
    rintro ⟨v1, i⟩ hv hE
    try dsimp only at hE
    have hi := hv
    try dsimp only at hi
    refine ad 8 ?_
    refine cd (fun h2 => ?_) (fun h2 => ?_)
    ·
      have h2l : i < p0.length := by have := of_decide_eq_true h2; omega
      have hM := hE.trans ((congrArg (fun n => laws_szCellS_l1 p0 p1 n v1 i) (show p0.length - i = (p0.length - (i + 1)) + 1 by omega)).trans (laws_szCellS_l1.eq_2 _ _ _ _ _))
      refine ad 7 ?_
      have hg4 := good_nth (k := i) hg_p0 om
      refine op (ix (xs := p0) i om) ?_
      refine ad 2 ?_
      have hg5 : Dat.good (nth p0 i : Cell) := hg4
      refine op (cl (c_laws_szCell (nth p0 i) v1) fok74) ?_
      refine ad 7 ?_
      refine cd (fun h6 => ?_) (fun h6 => ?_)
      ·
        have hM := hM.trans (bt h6)
        refine ad 4 ?_
        exact rz (rs := [.tmp 4]) (congrArg (fun x => [Re.c (.int .i64 x)]) hM)
      ·
        have hM := hM.trans (bf h6)
        refine ad 5 ?_
        rw [wrapN (i := i) (by first | omega | exact om)]
        refine ad 2 ?_
        exact Run.again ((laws_szCell (nth p0 i) v1), (i + 1)) [0] [1] ⟨by first | omega | exact trivial | (dsimp only; omega) | (refine ⟨by omega, ?_⟩; simp_all; try omega), hM⟩ rfl (by show _ - _ < _ - _; (try dsimp only); omega) su (by decide)
    ·
      have h2l : ¬ (i < p0.length) := by have := of_decide_eq_false h2; omega
      have hM := hE.trans ((congrArg (fun n => laws_szCellS_l1 p0 p1 n v1 i) (show p0.length - i = 0 by omega)).trans (laws_szCellS_l1.eq_1 _ _ _ _))
      refine ad 6 ?_
      exact rz (rs := [.tmp 4]) (congrArg (fun x => [Re.c (.int .i64 x)]) hM)

/- F206 loop.example/g00974/laws.szCall -/
def laws_szCall (p0 : Call) (p1 : Int) : Int := bif decide ((IntKind.i64.wrap (p1 - (p0.Name.size : Int))) < 0) then (-1) else (bif decide ((IntKind.i64.wrap ((IntKind.i64.wrap (p1 - (p0.Name.size : Int))) - (p0.To.size : Int))) < 0) then (-1) else (bif decide ((IntKind.i64.wrap ((IntKind.i64.wrap ((IntKind.i64.wrap (p1 - (p0.Name.size : Int))) - (p0.To.size : Int))) - (p0.Text.size : Int))) < 0) then (-1) else (IntKind.i64.wrap ((IntKind.i64.wrap ((IntKind.i64.wrap (p1 - (p0.Name.size : Int))) - (p0.To.size : Int))) - (p0.Text.size : Int)))))
theorem c_laws_szCall (p0 : Call) (p1 : Int) : CTs 206 [.o (.st Call _ inferInstance p0), .o (.c (.int .i64 p1))] [Re.c (.int .i64 (laws_szCall p0 p1))] := by
  refine en Tryz.func206 Tryz.ntmps206 fun w hG hgd => ?_
  obtain ⟨hg_p0, _⟩ := hgd
  have hM := laws_szCall.eq_1 p0 p1
  refine ad 20 ?_
  refine cd (fun h1 => ?_) (fun h1 => ?_)
  ·
    have hM := hM.trans (bt h1)
    refine ad 4 ?_
    exact rz (rs := [.tmp 4]) (congrArg (fun x => [Re.c (.int .i64 x)]) hM)
  ·
    have hM := hM.trans (bf h1)
    refine ad 16 ?_
    refine cd (fun h2 => ?_) (fun h2 => ?_)
    ·
      have hM := hM.trans (bt h2)
      refine ad 4 ?_
      exact rz (rs := [.tmp 4]) (congrArg (fun x => [Re.c (.int .i64 x)]) hM)
    ·
      have hM := hM.trans (bf h2)
      refine ad 16 ?_
      refine cd (fun h3 => ?_) (fun h3 => ?_)
      ·
        have hM := hM.trans (bt h3)
        refine ad 4 ?_
        exact rz (rs := [.tmp 4]) (congrArg (fun x => [Re.c (.int .i64 x)]) hM)
      ·
        have hM := hM.trans (bf h3)
        refine ad 6 ?_
        exact rz (rs := [.tmp 4]) (congrArg (fun x => [Re.c (.int .i64 x)]) hM)

/- F140 loop.example/g00974/laws.szCallS -/
def laws_szCallS_l1 (p0 : List Call) (p1 : Int) : Nat → Int → Nat → Int
  | 0, v1, i => v1
  | n + 1, v1, i => bif decide ((laws_szCall (nth p0 i) v1) < 0) then (-1) else (laws_szCallS_l1 p0 p1 n (laws_szCall (nth p0 i) v1) (i + 1))
def laws_szCallS (p0 : List Call) (p1 : Int) : Int := bif decide ((IntKind.i64.wrap (p1 - (p0.length : Int))) < 0) then (-1) else (laws_szCallS_l1 p0 p1 (p0.length - 0) (IntKind.i64.wrap (p1 - (p0.length : Int))) 0)
theorem c_laws_szCallS (p0 : List Call) (p1 : Int) : CTs 140 [.o (.sl Call instDatCall p0), .o (.c (.int .i64 p1))] [Re.c (.int .i64 (laws_szCallS p0 p1))] := by
  refine en Tryz.func140 Tryz.ntmps140 fun w hG hgd => ?_
  obtain ⟨hg_p0, _⟩ := hgd
  have hl_p0 : p0.length ≤ 9223372036854775807 := hg_p0.1
  have hM := laws_szCallS.eq_1 p0 p1
  refine ad 18 ?_
  refine cd (fun h1 => ?_) (fun h1 => ?_)
  ·
    have hM := hM.trans (bt h1)
    refine ad 4 ?_
    exact rz (rs := [.tmp 4]) (congrArg (fun x => [Re.c (.int .i64 x)]) hM)
  ·
    have hM := hM.trans (bf h1)
    refine ad 7 ?_
    refine Run.loopM (ι := Int × Nat) (fun s => laws_szCallS_l1 p0 p1 (p0.length - s.2) s.1 s.2) (fun s => ⟨27, 1, [(0, .sl 0 p0.length), (1, .v (.int .i64 s.1)), (5, .v (.int .i64 (s.2 : Int)))], [(0, .ros Call instDatCall p0)]⟩) (fun s => s.2 ≤ p0.length) (fun s => p0.length - s.2) (IntKind.i64.wrap (p1 - (p0.length : Int)), 0) [0] [0] hM (by first | exact ⟨by omega, by simp⟩ | omega | simp | (dsimp only; omega)) su (by decide) ?_
    rintro ⟨v1, i⟩ hv hE
    try dsimp only at hE
    have hi := hv
    try dsimp only at hi
    refine ad 8 ?_
    refine cd (fun h2 => ?_) (fun h2 => ?_)
    ·
      have h2l : i < p0.length := by have := of_decide_eq_true h2; omega
      have hM := hE.trans ((congrArg (fun n => laws_szCallS_l1 p0 p1 n v1 i) (show p0.length - i = (p0.length - (i + 1)) + 1 by omega)).trans (laws_szCallS_l1.eq_2 _ _ _ _ _))
      refine ad 7 ?_
      have hg4 := good_nth (k := i) hg_p0 om
      refine op (ix (xs := p0) i om) ?_
      refine ad 2 ?_
      have hg5 : Dat.good (nth p0 i : Call) := hg4
      refine op (cl (c_laws_szCall (nth p0 i) v1) fok206) ?_
      refine ad 7 ?_
      refine cd (fun h6 => ?_) (fun h6 => ?_)
      ·
        have hM := hM.trans (bt h6)
        refine ad 4 ?_
        exact rz (rs := [.tmp 4]) (congrArg (fun x => [Re.c (.int .i64 x)]) hM)
      ·
        have hM := hM.trans (bf h6)
        refine ad 5 ?_
        rw [wrapN (i := i) (by first | omega | exact om)]
        refine ad 2 ?_
        exact Run.again ((laws_szCall (nth p0 i) v1), (i + 1)) [0] [1] ⟨by first | omega | exact trivial | (dsimp only; omega) | (refine ⟨by omega, ?_⟩; simp_all; try omega), hM⟩ rfl (by show _ - _ < _ - _; (try dsimp only); omega) su (by decide)
    ·
      have h2l : ¬ (i < p0.length) := by have := of_decide_eq_false h2; omega
      have hM := hE.trans ((congrArg (fun n => laws_szCallS_l1 p0 p1 n v1 i) (show p0.length - i = 0 by omega)).trans (laws_szCallS_l1.eq_1 _ _ _ _))
      refine ad 6 ?_
      exact rz (rs := [.tmp 4]) (congrArg (fun x => [Re.c (.int .i64 x)]) hM)

/- F207 loop.example/g00974/laws.szAnswer -/
def laws_szAnswer (p0 : Answer) (p1 : Int) : Int := bif decide ((IntKind.i64.wrap (p1 - (p0.Text.size : Int))) < 0) then (-1) else (IntKind.i64.wrap (p1 - (p0.Text.size : Int)))
theorem c_laws_szAnswer (p0 : Answer) (p1 : Int) : CTs 207 [.o (.st Answer _ inferInstance p0), .o (.c (.int .i64 p1))] [Re.c (.int .i64 (laws_szAnswer p0 p1))] := by
  refine en Tryz.func207 Tryz.ntmps207 fun w hG hgd => ?_
  obtain ⟨hg_p0, _⟩ := hgd
  have hM := laws_szAnswer.eq_1 p0 p1
  refine ad 20 ?_
  refine cd (fun h1 => ?_) (fun h1 => ?_)
  ·
    have hM := hM.trans (bt h1)
    refine ad 4 ?_
    exact rz (rs := [.tmp 4]) (congrArg (fun x => [Re.c (.int .i64 x)]) hM)
  ·
    have hM := hM.trans (bf h1)
    refine ad 6 ?_
    exact rz (rs := [.tmp 4]) (congrArg (fun x => [Re.c (.int .i64 x)]) hM)

/- F141 loop.example/g00974/laws.szAnswerS -/
def laws_szAnswerS_l1 (p0 : List Answer) (p1 : Int) : Nat → Int → Nat → Int
  | 0, v1, i => v1
  | n + 1, v1, i => bif decide ((laws_szAnswer (nth p0 i) v1) < 0) then (-1) else (laws_szAnswerS_l1 p0 p1 n (laws_szAnswer (nth p0 i) v1) (i + 1))
def laws_szAnswerS (p0 : List Answer) (p1 : Int) : Int := bif decide ((IntKind.i64.wrap (p1 - (p0.length : Int))) < 0) then (-1) else (laws_szAnswerS_l1 p0 p1 (p0.length - 0) (IntKind.i64.wrap (p1 - (p0.length : Int))) 0)
theorem c_laws_szAnswerS (p0 : List Answer) (p1 : Int) : CTs 141 [.o (.sl Answer instDatAnswer p0), .o (.c (.int .i64 p1))] [Re.c (.int .i64 (laws_szAnswerS p0 p1))] := by
  refine en Tryz.func141 Tryz.ntmps141 fun w hG hgd => ?_
  obtain ⟨hg_p0, _⟩ := hgd
  have hl_p0 : p0.length ≤ 9223372036854775807 := hg_p0.1
  have hM := laws_szAnswerS.eq_1 p0 p1
  refine ad 18 ?_
  refine cd (fun h1 => ?_) (fun h1 => ?_)
  ·
    have hM := hM.trans (bt h1)
    refine ad 4 ?_
    exact rz (rs := [.tmp 4]) (congrArg (fun x => [Re.c (.int .i64 x)]) hM)
  ·
    have hM := hM.trans (bf h1)
    refine ad 7 ?_
    refine Run.loopM (ι := Int × Nat) (fun s => laws_szAnswerS_l1 p0 p1 (p0.length - s.2) s.1 s.2) (fun s => ⟨27, 1, [(0, .sl 0 p0.length), (1, .v (.int .i64 s.1)), (5, .v (.int .i64 (s.2 : Int)))], [(0, .ros Answer instDatAnswer p0)]⟩) (fun s => s.2 ≤ p0.length) (fun s => p0.length - s.2) (IntKind.i64.wrap (p1 - (p0.length : Int)), 0) [0] [0] hM (by first | exact ⟨by omega, by simp⟩ | omega | simp | (dsimp only; omega)) su (by decide) ?_
    rintro ⟨v1, i⟩ hv hE
    try dsimp only at hE
    have hi := hv
    try dsimp only at hi
    refine ad 8 ?_
    refine cd (fun h2 => ?_) (fun h2 => ?_)
    ·
      have h2l : i < p0.length := by have := of_decide_eq_true h2; omega
      have hM := hE.trans ((congrArg (fun n => laws_szAnswerS_l1 p0 p1 n v1 i) (show p0.length - i = (p0.length - (i + 1)) + 1 by omega)).trans (laws_szAnswerS_l1.eq_2 _ _ _ _ _))
      refine ad 7 ?_
      have hg4 := good_nth (k := i) hg_p0 om
      refine op (ix (xs := p0) i om) ?_
      refine ad 2 ?_
      have hg5 : Dat.good (nth p0 i : Answer) := hg4
      refine op (cl (c_laws_szAnswer (nth p0 i) v1) fok207) ?_
      refine ad 7 ?_
      refine cd (fun h6 => ?_) (fun h6 => ?_)
      ·
        have hM := hM.trans (bt h6)
        refine ad 4 ?_
        exact rz (rs := [.tmp 4]) (congrArg (fun x => [Re.c (.int .i64 x)]) hM)
      ·
        have hM := hM.trans (bf h6)
        refine ad 5 ?_
        rw [wrapN (i := i) (by first | omega | exact om)]
        refine ad 2 ?_
        exact Run.again ((laws_szAnswer (nth p0 i) v1), (i + 1)) [0] [1] ⟨by first | omega | exact trivial | (dsimp only; omega) | (refine ⟨by omega, ?_⟩; simp_all; try omega), hM⟩ rfl (by show _ - _ < _ - _; (try dsimp only); omega) su (by decide)
    ·
      have h2l : ¬ (i < p0.length) := by have := of_decide_eq_false h2; omega
      have hM := hE.trans ((congrArg (fun n => laws_szAnswerS_l1 p0 p1 n v1 i) (show p0.length - i = 0 by omega)).trans (laws_szAnswerS_l1.eq_1 _ _ _ _))
      refine ad 6 ?_
      exact rz (rs := [.tmp 4]) (congrArg (fun x => [Re.c (.int .i64 x)]) hM)

/- F35 loop.example/g00974/laws.szStringS -/
def laws_szStringS_l1 (p0 : List ByteArray) (p1 : Int) : Nat → Int → Nat → Int
  | 0, v1, i => v1
  | n + 1, v1, i => bif decide ((IntKind.i64.wrap (v1 - ((nth p0 i).size : Int))) < 0) then (-1) else (laws_szStringS_l1 p0 p1 n (IntKind.i64.wrap (v1 - ((nth p0 i).size : Int))) (i + 1))
def laws_szStringS (p0 : List ByteArray) (p1 : Int) : Int := bif decide ((IntKind.i64.wrap (p1 - (p0.length : Int))) < 0) then (-1) else (laws_szStringS_l1 p0 p1 (p0.length - 0) (IntKind.i64.wrap (p1 - (p0.length : Int))) 0)
theorem c_laws_szStringS (p0 : List ByteArray) (p1 : Int) : CTs 35 [.o (.sl ByteArray instDatByteArray p0), .o (.c (.int .i64 p1))] [Re.c (.int .i64 (laws_szStringS p0 p1))] := by
  refine en Tryz.func35 Tryz.ntmps35 fun w hG hgd => ?_
  obtain ⟨hg_p0, _⟩ := hgd
  have hl_p0 : p0.length ≤ 9223372036854775807 := hg_p0.1
  have hM := laws_szStringS.eq_1 p0 p1
  refine ad 18 ?_
  refine cd (fun h1 => ?_) (fun h1 => ?_)
  ·
    have hM := hM.trans (bt h1)
    refine ad 4 ?_
    exact rz (rs := [.tmp 4]) (congrArg (fun x => [Re.c (.int .i64 x)]) hM)
  ·
    have hM := hM.trans (bf h1)
    refine ad 7 ?_
    refine Run.loopM (ι := Int × Nat) (fun s => laws_szStringS_l1 p0 p1 (p0.length - s.2) s.1 s.2) (fun s => ⟨28, 1, [(0, .sl 0 p0.length), (1, .v (.int .i64 s.1)), (5, .v (.int .i64 (s.2 : Int)))], [(0, .ros ByteArray instDatByteArray p0)]⟩) (fun s => s.2 ≤ p0.length) (fun s => p0.length - s.2) (IntKind.i64.wrap (p1 - (p0.length : Int)), 0) [0] [0] hM (by first | exact ⟨by omega, by simp⟩ | omega | simp | (dsimp only; omega)) su (by decide) ?_
    rintro ⟨v1, i⟩ hv hE
    try dsimp only at hE
    have hi := hv
    try dsimp only at hi
    refine ad 8 ?_
    refine cd (fun h2 => ?_) (fun h2 => ?_)
    ·
      have h2l : i < p0.length := by have := of_decide_eq_true h2; omega
      have hM := hE.trans ((congrArg (fun n => laws_szStringS_l1 p0 p1 n v1 i) (show p0.length - i = (p0.length - (i + 1)) + 1 by omega)).trans (laws_szStringS_l1.eq_2 _ _ _ _ _))
      refine ad 8 ?_
      have hg4 := good_nth (k := i) hg_p0 om
      refine op (ix (xs := p0) i om) ?_
      refine ad 10 ?_
      refine cd (fun h5 => ?_) (fun h5 => ?_)
      ·
        have hM := hM.trans (bt h5)
        refine ad 4 ?_
        exact rz (rs := [.tmp 4]) (congrArg (fun x => [Re.c (.int .i64 x)]) hM)
      ·
        have hM := hM.trans (bf h5)
        refine ad 5 ?_
        rw [wrapN (i := i) (by first | omega | exact om)]
        refine ad 2 ?_
        exact Run.again (IntKind.i64.wrap (v1 - ((nth p0 i).size : Int)), (i + 1)) [0] [1] ⟨by first | omega | exact trivial | (dsimp only; omega) | (refine ⟨by omega, ?_⟩; simp_all; try omega), hM⟩ rfl (by show _ - _ < _ - _; (try dsimp only); omega) su (by decide)
    ·
      have h2l : ¬ (i < p0.length) := by have := of_decide_eq_false h2; omega
      have hM := hE.trans ((congrArg (fun n => laws_szStringS_l1 p0 p1 n v1 i) (show p0.length - i = 0 by omega)).trans (laws_szStringS_l1.eq_1 _ _ _ _))
      refine ad 6 ?_
      exact rz (rs := [.tmp 4]) (congrArg (fun x => [Re.c (.int .i64 x)]) hM)

/- F142 loop.example/g00974/laws.szTouch -/
def laws_szTouch (p0 : Touch) (p1 : Int) : Int := bif decide ((laws_szStringS p0.Reads p1) < 0) then (-1) else (bif decide ((laws_szStringS p0.Writes (laws_szStringS p0.Reads p1)) < 0) then (-1) else (laws_szStringS p0.Writes (laws_szStringS p0.Reads p1)))
theorem c_laws_szTouch (p0 : Touch) (p1 : Int) : CTs 142 [.o (.st Touch _ inferInstance p0), .o (.c (.int .i64 p1))] [Re.c (.int .i64 (laws_szTouch p0 p1))] := by
  refine en Tryz.func142 Tryz.ntmps142 fun w hG hgd => ?_
  obtain ⟨hg_p0, _⟩ := hgd
  have hM := laws_szTouch.eq_1 p0 p1
  refine ad 10 ?_
  refine op (cl (c_laws_szStringS p0.Reads p1) fok35) ?_
  refine ad 8 ?_
  refine cd (fun h1 => ?_) (fun h1 => ?_)
  ·
    have hM := hM.trans (bt h1)
    refine ad 4 ?_
    exact rz (rs := [.tmp 4]) (congrArg (fun x => [Re.c (.int .i64 x)]) hM)
  ·
    have hM := hM.trans (bf h1)
    refine ad 6 ?_
    refine op (cl (c_laws_szStringS p0.Writes (laws_szStringS p0.Reads p1)) fok35) ?_
    refine ad 8 ?_
    refine cd (fun h2 => ?_) (fun h2 => ?_)
    ·
      have hM := hM.trans (bt h2)
      refine ad 4 ?_
      exact rz (rs := [.tmp 4]) (congrArg (fun x => [Re.c (.int .i64 x)]) hM)
    ·
      have hM := hM.trans (bf h2)
      refine ad 6 ?_
      exact rz (rs := [.tmp 4]) (congrArg (fun x => [Re.c (.int .i64 x)]) hM)

/- F143 loop.example/g00974/laws.szIntS -/
def laws_szIntS (p0 : List Int) (p1 : Int) : Int := bif decide ((IntKind.i64.wrap (p1 - (p0.length : Int))) < 0) then (-1) else (IntKind.i64.wrap (p1 - (p0.length : Int)))
theorem c_laws_szIntS (p0 : List Int) (p1 : Int) : CTs 143 [.o (.sl Int instDatInt p0), .o (.c (.int .i64 p1))] [Re.c (.int .i64 (laws_szIntS p0 p1))] := by
  refine en Tryz.func143 Tryz.ntmps143 fun w hG hgd => ?_
  obtain ⟨hg_p0, _⟩ := hgd
  have hl_p0 : p0.length ≤ 9223372036854775807 := hg_p0.1
  have hM := laws_szIntS.eq_1 p0 p1
  refine ad 18 ?_
  refine cd (fun h1 => ?_) (fun h1 => ?_)
  ·
    have hM := hM.trans (bt h1)
    refine ad 4 ?_
    exact rz (rs := [.tmp 4]) (congrArg (fun x => [Re.c (.int .i64 x)]) hM)
  ·
    have hM := hM.trans (bf h1)
    refine ad 6 ?_
    exact rz (rs := [.tmp 4]) (congrArg (fun x => [Re.c (.int .i64 x)]) hM)

/- F75 loop.example/g00974/laws.szTx -/
def laws_szTx (p0 : Tx) (p1 : Int) : Int := bif decide ((laws_szCallS p0.Calls p1) < 0) then (-1) else (bif decide ((laws_szAnswerS p0.Answers (laws_szCallS p0.Calls p1)) < 0) then (-1) else (bif decide ((laws_szTouch p0.Touch (laws_szAnswerS p0.Answers (laws_szCallS p0.Calls p1))) < 0) then (-1) else (bif decide ((laws_szIntS p0.Marks (laws_szTouch p0.Touch (laws_szAnswerS p0.Answers (laws_szCallS p0.Calls p1)))) < 0) then (-1) else (laws_szIntS p0.Marks (laws_szTouch p0.Touch (laws_szAnswerS p0.Answers (laws_szCallS p0.Calls p1)))))))
theorem c_laws_szTx (p0 : Tx) (p1 : Int) : CTs 75 [.o (.st Tx _ inferInstance p0), .o (.c (.int .i64 p1))] [Re.c (.int .i64 (laws_szTx p0 p1))] := by
  refine en Tryz.func75 Tryz.ntmps75 fun w hG hgd => ?_
  obtain ⟨hg_p0, _⟩ := hgd
  have hM := laws_szTx.eq_1 p0 p1
  refine ad 10 ?_
  refine op (cl (c_laws_szCallS p0.Calls p1) fok140) ?_
  refine ad 8 ?_
  refine cd (fun h1 => ?_) (fun h1 => ?_)
  ·
    have hM := hM.trans (bt h1)
    refine ad 4 ?_
    exact rz (rs := [.tmp 4]) (congrArg (fun x => [Re.c (.int .i64 x)]) hM)
  ·
    have hM := hM.trans (bf h1)
    refine ad 6 ?_
    refine op (cl (c_laws_szAnswerS p0.Answers (laws_szCallS p0.Calls p1)) fok141) ?_
    refine ad 8 ?_
    refine cd (fun h2 => ?_) (fun h2 => ?_)
    ·
      have hM := hM.trans (bt h2)
      refine ad 4 ?_
      exact rz (rs := [.tmp 4]) (congrArg (fun x => [Re.c (.int .i64 x)]) hM)
    ·
      have hM := hM.trans (bf h2)
      refine ad 6 ?_
      have hg3 : Dat.good (p0.Touch : Touch) := hg_p0.2.2.2.2.2.2.1
      refine op (cl (c_laws_szTouch p0.Touch (laws_szAnswerS p0.Answers (laws_szCallS p0.Calls p1))) fok142) ?_
      refine ad 8 ?_
      refine cd (fun h4 => ?_) (fun h4 => ?_)
      ·
        have hM := hM.trans (bt h4)
        refine ad 4 ?_
        exact rz (rs := [.tmp 4]) (congrArg (fun x => [Re.c (.int .i64 x)]) hM)
      ·
        have hM := hM.trans (bf h4)
        refine ad 6 ?_
        refine op (cl (c_laws_szIntS p0.Marks (laws_szTouch p0.Touch (laws_szAnswerS p0.Answers (laws_szCallS p0.Calls p1)))) fok143) ?_
        refine ad 8 ?_
        refine cd (fun h5 => ?_) (fun h5 => ?_)
        ·
          have hM := hM.trans (bt h5)
          refine ad 4 ?_
          exact rz (rs := [.tmp 4]) (congrArg (fun x => [Re.c (.int .i64 x)]) hM)
        ·
          have hM := hM.trans (bf h5)
          refine ad 6 ?_
          exact rz (rs := [.tmp 4]) (congrArg (fun x => [Re.c (.int .i64 x)]) hM)

/- F32 loop.example/g00974/laws.szTxS -/
def laws_szTxS_l1 (p0 : List Tx) (p1 : Int) : Nat → Int → Nat → Int
  | 0, v1, i => v1
  | n + 1, v1, i => bif decide ((laws_szTx (nth p0 i) v1) < 0) then (-1) else (laws_szTxS_l1 p0 p1 n (laws_szTx (nth p0 i) v1) (i + 1))
def laws_szTxS (p0 : List Tx) (p1 : Int) : Int := bif decide ((IntKind.i64.wrap (p1 - (p0.length : Int))) < 0) then (-1) else (laws_szTxS_l1 p0 p1 (p0.length - 0) (IntKind.i64.wrap (p1 - (p0.length : Int))) 0)
theorem c_laws_szTxS (p0 : List Tx) (p1 : Int) : CTs 32 [.o (.sl Tx instDatTx p0), .o (.c (.int .i64 p1))] [Re.c (.int .i64 (laws_szTxS p0 p1))] := by
  refine en Tryz.func32 Tryz.ntmps32 fun w hG hgd => ?_
  obtain ⟨hg_p0, _⟩ := hgd
  have hl_p0 : p0.length ≤ 9223372036854775807 := hg_p0.1
  have hM := laws_szTxS.eq_1 p0 p1
  refine ad 18 ?_
  refine cd (fun h1 => ?_) (fun h1 => ?_)
  ·
    have hM := hM.trans (bt h1)
    refine ad 4 ?_
    exact rz (rs := [.tmp 4]) (congrArg (fun x => [Re.c (.int .i64 x)]) hM)
  ·
    have hM := hM.trans (bf h1)
    refine ad 7 ?_
    refine Run.loopM (ι := Int × Nat) (fun s => laws_szTxS_l1 p0 p1 (p0.length - s.2) s.1 s.2) (fun s => ⟨27, 1, [(0, .sl 0 p0.length), (1, .v (.int .i64 s.1)), (5, .v (.int .i64 (s.2 : Int)))], [(0, .ros Tx instDatTx p0)]⟩) (fun s => s.2 ≤ p0.length) (fun s => p0.length - s.2) (IntKind.i64.wrap (p1 - (p0.length : Int)), 0) [0] [0] hM (by first | exact ⟨by omega, by simp⟩ | omega | simp | (dsimp only; omega)) su (by decide) ?_
    rintro ⟨v1, i⟩ hv hE
    try dsimp only at hE
    have hi := hv
    try dsimp only at hi
    refine ad 8 ?_
    refine cd (fun h2 => ?_) (fun h2 => ?_)
    ·
      have h2l : i < p0.length := by have := of_decide_eq_true h2; omega
      have hM := hE.trans ((congrArg (fun n => laws_szTxS_l1 p0 p1 n v1 i) (show p0.length - i = (p0.length - (i + 1)) + 1 by omega)).trans (laws_szTxS_l1.eq_2 _ _ _ _ _))
      refine ad 7 ?_
      have hg4 := good_nth (k := i) hg_p0 om
      refine op (ix (xs := p0) i om) ?_
      refine ad 2 ?_
      have hg5 : Dat.good (nth p0 i : Tx) := hg4
      refine op (cl (c_laws_szTx (nth p0 i) v1) fok75) ?_
      refine ad 7 ?_
      refine cd (fun h6 => ?_) (fun h6 => ?_)
      ·
        have hM := hM.trans (bt h6)
        refine ad 4 ?_
        exact rz (rs := [.tmp 4]) (congrArg (fun x => [Re.c (.int .i64 x)]) hM)
      ·
        have hM := hM.trans (bf h6)
        refine ad 5 ?_
        rw [wrapN (i := i) (by first | omega | exact om)]
        refine ad 2 ?_
        exact Run.again ((laws_szTx (nth p0 i) v1), (i + 1)) [0] [6] ⟨by first | omega | exact trivial | (dsimp only; omega) | (refine ⟨by omega, ?_⟩; simp_all; try omega), hM⟩ rfl (by show _ - _ < _ - _; (try dsimp only); omega) su (by decide)
    ·
      have h2l : ¬ (i < p0.length) := by have := of_decide_eq_false h2; omega
      have hM := hE.trans ((congrArg (fun n => laws_szTxS_l1 p0 p1 n v1 i) (show p0.length - i = 0 by omega)).trans (laws_szTxS_l1.eq_1 _ _ _ _))
      refine ad 6 ?_
      exact rz (rs := [.tmp 4]) (congrArg (fun x => [Re.c (.int .i64 x)]) hM)

/- F144 loop.example/g00974/laws.szSlot -/
def laws_szSlot (p0 : Slot) (p1 : Int) : Int := bif decide ((laws_szCellS p0.Cells p1) < 0) then (-1) else (laws_szCellS p0.Cells p1)
theorem c_laws_szSlot (p0 : Slot) (p1 : Int) : CTs 144 [.o (.st Slot _ inferInstance p0), .o (.c (.int .i64 p1))] [Re.c (.int .i64 (laws_szSlot p0 p1))] := by
  refine en Tryz.func144 Tryz.ntmps144 fun w hG hgd => ?_
  obtain ⟨hg_p0, _⟩ := hgd
  have hM := laws_szSlot.eq_1 p0 p1
  refine ad 10 ?_
  refine op (cl (c_laws_szCellS p0.Cells p1) fok31) ?_
  refine ad 8 ?_
  refine cd (fun h1 => ?_) (fun h1 => ?_)
  ·
    have hM := hM.trans (bt h1)
    refine ad 4 ?_
    exact rz (rs := [.tmp 4]) (congrArg (fun x => [Re.c (.int .i64 x)]) hM)
  ·
    have hM := hM.trans (bf h1)
    refine ad 6 ?_
    exact rz (rs := [.tmp 4]) (congrArg (fun x => [Re.c (.int .i64 x)]) hM)

/- F76 loop.example/g00974/laws.szSlotS -/
def laws_szSlotS_l1 (p0 : List Slot) (p1 : Int) : Nat → Int → Nat → Int
  | 0, v1, i => v1
  | n + 1, v1, i => bif decide ((laws_szSlot (nth p0 i) v1) < 0) then (-1) else (laws_szSlotS_l1 p0 p1 n (laws_szSlot (nth p0 i) v1) (i + 1))
def laws_szSlotS (p0 : List Slot) (p1 : Int) : Int := bif decide ((IntKind.i64.wrap (p1 - (p0.length : Int))) < 0) then (-1) else (laws_szSlotS_l1 p0 p1 (p0.length - 0) (IntKind.i64.wrap (p1 - (p0.length : Int))) 0)
theorem c_laws_szSlotS (p0 : List Slot) (p1 : Int) : CTs 76 [.o (.sl Slot instDatSlot p0), .o (.c (.int .i64 p1))] [Re.c (.int .i64 (laws_szSlotS p0 p1))] := by
  refine en Tryz.func76 Tryz.ntmps76 fun w hG hgd => ?_
  obtain ⟨hg_p0, _⟩ := hgd
  have hl_p0 : p0.length ≤ 9223372036854775807 := hg_p0.1
  have hM := laws_szSlotS.eq_1 p0 p1
  refine ad 18 ?_
  refine cd (fun h1 => ?_) (fun h1 => ?_)
  ·
    have hM := hM.trans (bt h1)
    refine ad 4 ?_
    exact rz (rs := [.tmp 4]) (congrArg (fun x => [Re.c (.int .i64 x)]) hM)
  ·
    have hM := hM.trans (bf h1)
    refine ad 7 ?_
    refine Run.loopM (ι := Int × Nat) (fun s => laws_szSlotS_l1 p0 p1 (p0.length - s.2) s.1 s.2) (fun s => ⟨27, 1, [(0, .sl 0 p0.length), (1, .v (.int .i64 s.1)), (5, .v (.int .i64 (s.2 : Int)))], [(0, .ros Slot instDatSlot p0)]⟩) (fun s => s.2 ≤ p0.length) (fun s => p0.length - s.2) (IntKind.i64.wrap (p1 - (p0.length : Int)), 0) [0] [0] hM (by first | exact ⟨by omega, by simp⟩ | omega | simp | (dsimp only; omega)) su (by decide) ?_
    rintro ⟨v1, i⟩ hv hE
    try dsimp only at hE
    have hi := hv
    try dsimp only at hi
    refine ad 8 ?_
    refine cd (fun h2 => ?_) (fun h2 => ?_)
    ·
      have h2l : i < p0.length := by have := of_decide_eq_true h2; omega
      have hM := hE.trans ((congrArg (fun n => laws_szSlotS_l1 p0 p1 n v1 i) (show p0.length - i = (p0.length - (i + 1)) + 1 by omega)).trans (laws_szSlotS_l1.eq_2 _ _ _ _ _))
      refine ad 7 ?_
      have hg4 := good_nth (k := i) hg_p0 om
      refine op (ix (xs := p0) i om) ?_
      refine ad 2 ?_
      have hg5 : Dat.good (nth p0 i : Slot) := hg4
      refine op (cl (c_laws_szSlot (nth p0 i) v1) fok144) ?_
      refine ad 7 ?_
      refine cd (fun h6 => ?_) (fun h6 => ?_)
      ·
        have hM := hM.trans (bt h6)
        refine ad 4 ?_
        exact rz (rs := [.tmp 4]) (congrArg (fun x => [Re.c (.int .i64 x)]) hM)
      ·
        have hM := hM.trans (bf h6)
        refine ad 5 ?_
        rw [wrapN (i := i) (by first | omega | exact om)]
        refine ad 2 ?_
        exact Run.again ((laws_szSlot (nth p0 i) v1), (i + 1)) [0] [2] ⟨by first | omega | exact trivial | (dsimp only; omega) | (refine ⟨by omega, ?_⟩; simp_all; try omega), hM⟩ rfl (by show _ - _ < _ - _; (try dsimp only); omega) su (by decide)
    ·
      have h2l : ¬ (i < p0.length) := by have := of_decide_eq_false h2; omega
      have hM := hE.trans ((congrArg (fun n => laws_szSlotS_l1 p0 p1 n v1 i) (show p0.length - i = 0 by omega)).trans (laws_szSlotS_l1.eq_1 _ _ _ _))
      refine ad 6 ?_
      exact rz (rs := [.tmp 4]) (congrArg (fun x => [Re.c (.int .i64 x)]) hM)

/- F77 loop.example/g00974/laws.szJournal -/
def laws_szJournal (p0 : Journal) (p1 : Int) : Int := bif decide ((IntKind.i64.wrap (p1 - (p0.Text.size : Int))) < 0) then (-1) else (IntKind.i64.wrap (p1 - (p0.Text.size : Int)))
theorem c_laws_szJournal (p0 : Journal) (p1 : Int) : CTs 77 [.o (.st Journal _ inferInstance p0), .o (.c (.int .i64 p1))] [Re.c (.int .i64 (laws_szJournal p0 p1))] := by
  refine en Tryz.func77 Tryz.ntmps77 fun w hG hgd => ?_
  obtain ⟨hg_p0, _⟩ := hgd
  have hM := laws_szJournal.eq_1 p0 p1
  refine ad 20 ?_
  refine cd (fun h1 => ?_) (fun h1 => ?_)
  ·
    have hM := hM.trans (bt h1)
    refine ad 4 ?_
    exact rz (rs := [.tmp 4]) (congrArg (fun x => [Re.c (.int .i64 x)]) hM)
  ·
    have hM := hM.trans (bf h1)
    refine ad 6 ?_
    exact rz (rs := [.tmp 4]) (congrArg (fun x => [Re.c (.int .i64 x)]) hM)

/- F33 loop.example/g00974/laws.szDisk -/
def laws_szDisk (p0 : Disk) (p1 : Int) : Int := bif decide ((laws_szSlotS p0.Slots p1) < 0) then (-1) else (bif decide ((laws_szJournal p0.Journal (laws_szSlotS p0.Slots p1)) < 0) then (-1) else (laws_szJournal p0.Journal (laws_szSlotS p0.Slots p1)))
theorem c_laws_szDisk (p0 : Disk) (p1 : Int) : CTs 33 [.o (.st Disk _ inferInstance p0), .o (.c (.int .i64 p1))] [Re.c (.int .i64 (laws_szDisk p0 p1))] := by
  refine en Tryz.func33 Tryz.ntmps33 fun w hG hgd => ?_
  obtain ⟨hg_p0, _⟩ := hgd
  have hM := laws_szDisk.eq_1 p0 p1
  refine ad 10 ?_
  refine op (cl (c_laws_szSlotS p0.Slots p1) fok76) ?_
  refine ad 8 ?_
  refine cd (fun h1 => ?_) (fun h1 => ?_)
  ·
    have hM := hM.trans (bt h1)
    refine ad 4 ?_
    exact rz (rs := [.tmp 4]) (congrArg (fun x => [Re.c (.int .i64 x)]) hM)
  ·
    have hM := hM.trans (bf h1)
    refine ad 6 ?_
    have hg2 : Dat.good (p0.Journal : Journal) := hg_p0.2
    refine op (cl (c_laws_szJournal p0.Journal (laws_szSlotS p0.Slots p1)) fok77) ?_
    refine ad 8 ?_
    refine cd (fun h3 => ?_) (fun h3 => ?_)
    ·
      have hM := hM.trans (bt h3)
      refine ad 4 ?_
      exact rz (rs := [.tmp 4]) (congrArg (fun x => [Re.c (.int .i64 x)]) hM)
    ·
      have hM := hM.trans (bf h3)
      refine ad 6 ?_
      exact rz (rs := [.tmp 4]) (congrArg (fun x => [Re.c (.int .i64 x)]) hM)

/- F208 loop.example/g00974/laws.szStep -/
def laws_szStep (p0 : Step) (p1 : Int) : Int := bif decide ((laws_szCall p0.Call p1) < 0) then (-1) else (laws_szCall p0.Call p1)
theorem c_laws_szStep (p0 : Step) (p1 : Int) : CTs 208 [.o (.st Step _ inferInstance p0), .o (.c (.int .i64 p1))] [Re.c (.int .i64 (laws_szStep p0 p1))] := by
  refine en Tryz.func208 Tryz.ntmps208 fun w hG hgd => ?_
  obtain ⟨hg_p0, _⟩ := hgd
  have hM := laws_szStep.eq_1 p0 p1
  refine ad 10 ?_
  have hg1 : Dat.good (p0.Call : Call) := hg_p0.2
  refine op (cl (c_laws_szCall p0.Call p1) fok206) ?_
  refine ad 8 ?_
  refine cd (fun h2 => ?_) (fun h2 => ?_)
  ·
    have hM := hM.trans (bt h2)
    refine ad 4 ?_
    exact rz (rs := [.tmp 4]) (congrArg (fun x => [Re.c (.int .i64 x)]) hM)
  ·
    have hM := hM.trans (bf h2)
    refine ad 6 ?_
    exact rz (rs := [.tmp 4]) (congrArg (fun x => [Re.c (.int .i64 x)]) hM)

/- F145 loop.example/g00974/laws.szStepS -/
def laws_szStepS_l1 (p0 : List Step) (p1 : Int) : Nat → Int → Nat → Int
  | 0, v1, i => v1
  | n + 1, v1, i => bif decide ((laws_szStep (nth p0 i) v1) < 0) then (-1) else (laws_szStepS_l1 p0 p1 n (laws_szStep (nth p0 i) v1) (i + 1))
def laws_szStepS (p0 : List Step) (p1 : Int) : Int := bif decide ((IntKind.i64.wrap (p1 - (p0.length : Int))) < 0) then (-1) else (laws_szStepS_l1 p0 p1 (p0.length - 0) (IntKind.i64.wrap (p1 - (p0.length : Int))) 0)
theorem c_laws_szStepS (p0 : List Step) (p1 : Int) : CTs 145 [.o (.sl Step instDatStep p0), .o (.c (.int .i64 p1))] [Re.c (.int .i64 (laws_szStepS p0 p1))] := by
  refine en Tryz.func145 Tryz.ntmps145 fun w hG hgd => ?_
  obtain ⟨hg_p0, _⟩ := hgd
  have hl_p0 : p0.length ≤ 9223372036854775807 := hg_p0.1
  have hM := laws_szStepS.eq_1 p0 p1
  refine ad 18 ?_
  refine cd (fun h1 => ?_) (fun h1 => ?_)
  ·
    have hM := hM.trans (bt h1)
    refine ad 4 ?_
    exact rz (rs := [.tmp 4]) (congrArg (fun x => [Re.c (.int .i64 x)]) hM)
  ·
    have hM := hM.trans (bf h1)
    refine ad 7 ?_
    refine Run.loopM (ι := Int × Nat) (fun s => laws_szStepS_l1 p0 p1 (p0.length - s.2) s.1 s.2) (fun s => ⟨27, 1, [(0, .sl 0 p0.length), (1, .v (.int .i64 s.1)), (5, .v (.int .i64 (s.2 : Int)))], [(0, .ros Step instDatStep p0)]⟩) (fun s => s.2 ≤ p0.length) (fun s => p0.length - s.2) (IntKind.i64.wrap (p1 - (p0.length : Int)), 0) [0] [0] hM (by first | exact ⟨by omega, by simp⟩ | omega | simp | (dsimp only; omega)) su (by decide) ?_
    rintro ⟨v1, i⟩ hv hE
    try dsimp only at hE
    have hi := hv
    try dsimp only at hi
    refine ad 8 ?_
    refine cd (fun h2 => ?_) (fun h2 => ?_)
    ·
      have h2l : i < p0.length := by have := of_decide_eq_true h2; omega
      have hM := hE.trans ((congrArg (fun n => laws_szStepS_l1 p0 p1 n v1 i) (show p0.length - i = (p0.length - (i + 1)) + 1 by omega)).trans (laws_szStepS_l1.eq_2 _ _ _ _ _))
      refine ad 7 ?_
      have hg4 := good_nth (k := i) hg_p0 om
      refine op (ix (xs := p0) i om) ?_
      refine ad 2 ?_
      have hg5 : Dat.good (nth p0 i : Step) := hg4
      refine op (cl (c_laws_szStep (nth p0 i) v1) fok208) ?_
      refine ad 7 ?_
      refine cd (fun h6 => ?_) (fun h6 => ?_)
      ·
        have hM := hM.trans (bt h6)
        refine ad 4 ?_
        exact rz (rs := [.tmp 4]) (congrArg (fun x => [Re.c (.int .i64 x)]) hM)
      ·
        have hM := hM.trans (bf h6)
        refine ad 5 ?_
        rw [wrapN (i := i) (by first | omega | exact om)]
        refine ad 2 ?_
        exact Run.again ((laws_szStep (nth p0 i) v1), (i + 1)) [0] [1] ⟨by first | omega | exact trivial | (dsimp only; omega) | (refine ⟨by omega, ?_⟩; simp_all; try omega), hM⟩ rfl (by show _ - _ < _ - _; (try dsimp only); omega) su (by decide)
    ·
      have h2l : ¬ (i < p0.length) := by have := of_decide_eq_false h2; omega
      have hM := hE.trans ((congrArg (fun n => laws_szStepS_l1 p0 p1 n v1 i) (show p0.length - i = 0 by omega)).trans (laws_szStepS_l1.eq_1 _ _ _ _))
      refine ad 6 ?_
      exact rz (rs := [.tmp 4]) (congrArg (fun x => [Re.c (.int .i64 x)]) hM)

/- F78 loop.example/g00974/laws.szEntry -/
def laws_szEntry (p0 : Entry) (p1 : Int) : Int := bif decide ((laws_szStepS p0.Steps p1) < 0) then (-1) else (bif decide ((laws_szAnswerS p0.Answers (laws_szStepS p0.Steps p1)) < 0) then (-1) else (laws_szAnswerS p0.Answers (laws_szStepS p0.Steps p1)))
theorem c_laws_szEntry (p0 : Entry) (p1 : Int) : CTs 78 [.o (.st Entry _ inferInstance p0), .o (.c (.int .i64 p1))] [Re.c (.int .i64 (laws_szEntry p0 p1))] := by
  refine en Tryz.func78 Tryz.ntmps78 fun w hG hgd => ?_
  obtain ⟨hg_p0, _⟩ := hgd
  have hM := laws_szEntry.eq_1 p0 p1
  refine ad 10 ?_
  refine op (cl (c_laws_szStepS p0.Steps p1) fok145) ?_
  refine ad 8 ?_
  refine cd (fun h1 => ?_) (fun h1 => ?_)
  ·
    have hM := hM.trans (bt h1)
    refine ad 4 ?_
    exact rz (rs := [.tmp 4]) (congrArg (fun x => [Re.c (.int .i64 x)]) hM)
  ·
    have hM := hM.trans (bf h1)
    refine ad 6 ?_
    refine op (cl (c_laws_szAnswerS p0.Answers (laws_szStepS p0.Steps p1)) fok141) ?_
    refine ad 8 ?_
    refine cd (fun h2 => ?_) (fun h2 => ?_)
    ·
      have hM := hM.trans (bt h2)
      refine ad 4 ?_
      exact rz (rs := [.tmp 4]) (congrArg (fun x => [Re.c (.int .i64 x)]) hM)
    ·
      have hM := hM.trans (bf h2)
      refine ad 6 ?_
      exact rz (rs := [.tmp 4]) (congrArg (fun x => [Re.c (.int .i64 x)]) hM)

/- F34 loop.example/g00974/laws.szEntryS -/
def laws_szEntryS_l1 (p0 : List Entry) (p1 : Int) : Nat → Int → Nat → Int
  | 0, v1, i => v1
  | n + 1, v1, i => bif decide ((laws_szEntry (nth p0 i) v1) < 0) then (-1) else (laws_szEntryS_l1 p0 p1 n (laws_szEntry (nth p0 i) v1) (i + 1))
def laws_szEntryS (p0 : List Entry) (p1 : Int) : Int := bif decide ((IntKind.i64.wrap (p1 - (p0.length : Int))) < 0) then (-1) else (laws_szEntryS_l1 p0 p1 (p0.length - 0) (IntKind.i64.wrap (p1 - (p0.length : Int))) 0)
theorem c_laws_szEntryS (p0 : List Entry) (p1 : Int) : CTs 34 [.o (.sl Entry instDatEntry p0), .o (.c (.int .i64 p1))] [Re.c (.int .i64 (laws_szEntryS p0 p1))] := by
  refine en Tryz.func34 Tryz.ntmps34 fun w hG hgd => ?_
  obtain ⟨hg_p0, _⟩ := hgd
  have hl_p0 : p0.length ≤ 9223372036854775807 := hg_p0.1
  have hM := laws_szEntryS.eq_1 p0 p1
  refine ad 18 ?_
  refine cd (fun h1 => ?_) (fun h1 => ?_)
  ·
    have hM := hM.trans (bt h1)
    refine ad 4 ?_
    exact rz (rs := [.tmp 4]) (congrArg (fun x => [Re.c (.int .i64 x)]) hM)
  ·
    have hM := hM.trans (bf h1)
    refine ad 7 ?_
    refine Run.loopM (ι := Int × Nat) (fun s => laws_szEntryS_l1 p0 p1 (p0.length - s.2) s.1 s.2) (fun s => ⟨27, 1, [(0, .sl 0 p0.length), (1, .v (.int .i64 s.1)), (5, .v (.int .i64 (s.2 : Int)))], [(0, .ros Entry instDatEntry p0)]⟩) (fun s => s.2 ≤ p0.length) (fun s => p0.length - s.2) (IntKind.i64.wrap (p1 - (p0.length : Int)), 0) [0] [0] hM (by first | exact ⟨by omega, by simp⟩ | omega | simp | (dsimp only; omega)) su (by decide) ?_
    rintro ⟨v1, i⟩ hv hE
    try dsimp only at hE
    have hi := hv
    try dsimp only at hi
    refine ad 8 ?_
    refine cd (fun h2 => ?_) (fun h2 => ?_)
    ·
      have h2l : i < p0.length := by have := of_decide_eq_true h2; omega
      have hM := hE.trans ((congrArg (fun n => laws_szEntryS_l1 p0 p1 n v1 i) (show p0.length - i = (p0.length - (i + 1)) + 1 by omega)).trans (laws_szEntryS_l1.eq_2 _ _ _ _ _))
      refine ad 7 ?_
      have hg4 := good_nth (k := i) hg_p0 om
      refine op (ix (xs := p0) i om) ?_
      refine ad 2 ?_
      have hg5 : Dat.good (nth p0 i : Entry) := hg4
      refine op (cl (c_laws_szEntry (nth p0 i) v1) fok78) ?_
      refine ad 7 ?_
      refine cd (fun h6 => ?_) (fun h6 => ?_)
      ·
        have hM := hM.trans (bt h6)
        refine ad 4 ?_
        exact rz (rs := [.tmp 4]) (congrArg (fun x => [Re.c (.int .i64 x)]) hM)
      ·
        have hM := hM.trans (bf h6)
        refine ad 5 ?_
        rw [wrapN (i := i) (by first | omega | exact om)]
        refine ad 2 ?_
        exact Run.again ((laws_szEntry (nth p0 i) v1), (i + 1)) [0] [3] ⟨by first | omega | exact trivial | (dsimp only; omega) | (refine ⟨by omega, ?_⟩; simp_all; try omega), hM⟩ rfl (by show _ - _ < _ - _; (try dsimp only); omega) su (by decide)
    ·
      have h2l : ¬ (i < p0.length) := by have := of_decide_eq_false h2; omega
      have hM := hE.trans ((congrArg (fun n => laws_szEntryS_l1 p0 p1 n v1 i) (show p0.length - i = 0 by omega)).trans (laws_szEntryS_l1.eq_1 _ _ _ _))
      refine ad 6 ?_
      exact rz (rs := [.tmp 4]) (congrArg (fun x => [Re.c (.int .i64 x)]) hM)

/- F9 loop.example/g00974/laws.szKernel -/
def laws_szKernel (p0 : Kernel) (p1 : Int) : Int := bif decide ((laws_szCellS p0.Store p1) < 0) then (-1) else (bif decide ((laws_szTxS p0.Txs (laws_szCellS p0.Store p1)) < 0) then (-1) else (bif decide ((laws_szDisk p0.Disk (laws_szTxS p0.Txs (laws_szCellS p0.Store p1))) < 0) then (-1) else (bif decide ((laws_szEntryS p0.History (laws_szDisk p0.Disk (laws_szTxS p0.Txs (laws_szCellS p0.Store p1)))) < 0) then (-1) else (bif decide ((laws_szStringS p0.Seen (laws_szEntryS p0.History (laws_szDisk p0.Disk (laws_szTxS p0.Txs (laws_szCellS p0.Store p1))))) < 0) then (-1) else (laws_szStringS p0.Seen (laws_szEntryS p0.History (laws_szDisk p0.Disk (laws_szTxS p0.Txs (laws_szCellS p0.Store p1)))))))))
theorem c_laws_szKernel (p0 : Kernel) (p1 : Int) : CTs 9 [.o (.st Kernel _ inferInstance p0), .o (.c (.int .i64 p1))] [Re.c (.int .i64 (laws_szKernel p0 p1))] := by
  refine en Tryz.func9 Tryz.ntmps9 fun w hG hgd => ?_
  obtain ⟨hg_p0, _⟩ := hgd
  have hM := laws_szKernel.eq_1 p0 p1
  refine ad 10 ?_
  refine op (cl (c_laws_szCellS p0.Store p1) fok31) ?_
  refine ad 8 ?_
  refine cd (fun h1 => ?_) (fun h1 => ?_)
  ·
    have hM := hM.trans (bt h1)
    refine ad 4 ?_
    exact rz (rs := [.tmp 4]) (congrArg (fun x => [Re.c (.int .i64 x)]) hM)
  ·
    have hM := hM.trans (bf h1)
    refine ad 6 ?_
    refine op (cl (c_laws_szTxS p0.Txs (laws_szCellS p0.Store p1)) fok32) ?_
    refine ad 8 ?_
    refine cd (fun h2 => ?_) (fun h2 => ?_)
    ·
      have hM := hM.trans (bt h2)
      refine ad 4 ?_
      exact rz (rs := [.tmp 4]) (congrArg (fun x => [Re.c (.int .i64 x)]) hM)
    ·
      have hM := hM.trans (bf h2)
      refine ad 6 ?_
      have hg3 : Dat.good (p0.Disk : Disk) := hg_p0.2.2.1
      refine op (cl (c_laws_szDisk p0.Disk (laws_szTxS p0.Txs (laws_szCellS p0.Store p1))) fok33) ?_
      refine ad 8 ?_
      refine cd (fun h4 => ?_) (fun h4 => ?_)
      ·
        have hM := hM.trans (bt h4)
        refine ad 4 ?_
        exact rz (rs := [.tmp 4]) (congrArg (fun x => [Re.c (.int .i64 x)]) hM)
      ·
        have hM := hM.trans (bf h4)
        refine ad 6 ?_
        refine op (cl (c_laws_szEntryS p0.History (laws_szDisk p0.Disk (laws_szTxS p0.Txs (laws_szCellS p0.Store p1)))) fok34) ?_
        refine ad 8 ?_
        refine cd (fun h5 => ?_) (fun h5 => ?_)
        ·
          have hM := hM.trans (bt h5)
          refine ad 4 ?_
          exact rz (rs := [.tmp 4]) (congrArg (fun x => [Re.c (.int .i64 x)]) hM)
        ·
          have hM := hM.trans (bf h5)
          refine ad 6 ?_
          refine op (cl (c_laws_szStringS p0.Seen (laws_szEntryS p0.History (laws_szDisk p0.Disk (laws_szTxS p0.Txs (laws_szCellS p0.Store p1))))) fok35) ?_
          refine ad 8 ?_
          refine cd (fun h6 => ?_) (fun h6 => ?_)
          ·
            have hM := hM.trans (bt h6)
            refine ad 4 ?_
            exact rz (rs := [.tmp 4]) (congrArg (fun x => [Re.c (.int .i64 x)]) hM)
          ·
            have hM := hM.trans (bf h6)
            refine ad 6 ?_
            exact rz (rs := [.tmp 4]) (congrArg (fun x => [Re.c (.int .i64 x)]) hM)

end Go.Proofs.YtppialklomgajaaGreatDoor.Fw
/-
  What is measured is small. No condition.
-/
namespace Go.Proofs.YtppialklomgajaaGreatDoor.Fw
open Go.RowKit
set_option linter.unusedVariables false
set_option linter.unusedSimpArgs false
set_option maxRecDepth 100000

/-! ## Lists, generally -/
theorem nth_of {α : Type} [Inhabited α] {xs : List α} {i : Nat} {x : α} (h : xs[i]? = some x) : nth xs i = x := by
  simp [nth, List.getD_eq_getElem?_getD, h]
def szL {α : Type} [Inhabited α] (f : α → Int → Int) (xs : List α) : Nat → Int → Nat → Int
  | 0, s, _ => s
  | n + 1, s, i => bif decide (f (nth xs i) s < 0) then (-1) else szL f xs n (f (nth xs i) s) (i + 1)
theorem szL_small {α : Type} [Inhabited α] [Dat α] {f : α → Int → Int} {xs : List α} (hf : ∀ x s, 0 ≤ s → s ≤ 1048576 → Dat.good x → ¬ f x s < 0 → Dat.small 1048576 x ∧ 0 ≤ f x s ∧ f x s ≤ 1048576) (hg : ∀ x ∈ xs, Dat.good x) :
    ∀ (n : Nat) (s : Int) (i : Nat), n = xs.length - i → 0 ≤ s → s ≤ 1048576 → ¬ szL f xs n s i < 0 → (∀ j x, i ≤ j → xs[j]? = some x → Dat.small 1048576 x) ∧ 0 ≤ szL f xs n s i ∧ szL f xs n s i ≤ 1048576 := by
  intro n
  induction n with
  | zero =>
    intro s i hn h0 h1 _
    refine ⟨fun j x hj hx => ?_, h0, h1⟩
    have := (List.getElem?_eq_some_iff.1 hx).1
    omega
  | succ n ih =>
    intro s i hn h0 h1 h
    unfold szL at h ⊢
    by_cases hc : f (nth xs i) s < 0
    · rw [decide_eq_true hc] at h
      exact absurd (show ((-1 : Int)) < 0 by decide) h
    · rw [decide_eq_false hc] at h ⊢
      have hi : i < xs.length := by omega
      have hx : xs[i]? = some xs[i] := List.getElem?_eq_getElem hi
      have hgi : Dat.good (nth xs i) := by rw [nth_of hx]; exact hg _ (List.getElem_mem hi)
      obtain ⟨h2, h3, h4⟩ := hf _ _ h0 h1 hgi hc
      obtain ⟨h5, h6, h7⟩ := ih _ (i + 1) (by omega) h3 h4 h
      refine ⟨fun j x hj hjx => ?_, h6, h7⟩
      by_cases e : j = i
      · subst e
        rw [← nth_of hjx]
        exact h2
      · exact h5 j x (by omega) hjx
theorem good_str {s : ByteArray} (h : Dat.good s) : s.size ≤ 9223372036854775807 := by
  have h' : s.size ≤ maxLen := h
  unfold maxLen at h'
  omega
theorem wrap_sub {a : Int} {n : Nat} (h0 : 0 ≤ a) (h1 : a ≤ 1048576) (hn : n ≤ 9223372036854775807) : IntKind.i64.wrap (a - (n : Int)) = a - n := IntWalk.i64_in _ (by omega)
def laws_szString (x : ByteArray) (s : Int) : Int := IntKind.i64.wrap (s - (x.size : Int))
theorem laws_szString_small (p0 : ByteArray) (p1 : Int) (h0 : 0 ≤ p1) (h1 : p1 ≤ 1048576) (hg : Dat.good p0) (h : ¬ laws_szString p0 p1 < 0) : Dat.small 1048576 p0 ∧ 0 ≤ laws_szString p0 p1 ∧ laws_szString p0 p1 ≤ 1048576 := by
  unfold laws_szString at h ⊢
  rw [wrap_sub h0 h1 (good_str hg)] at h ⊢
  have e : p0.size ≤ 1048576 := by omega
  exact ⟨e, by omega, by omega⟩
theorem no_neg {a : Int} {x : Int} (h : ¬ (bif decide (a < 0) then (-1 : Int) else x) < 0) : ¬ a < 0 := fun hc => h (by rw [decide_eq_true hc]; show (-1 : Int) < 0; decide)
theorem laws_szCell_small (p0 : Cell) (p1 : Int) (h0 : 0 ≤ p1) (h1 : p1 ≤ 1048576) (hg : Dat.good p0) (h : ¬ laws_szCell p0 p1 < 0) : Dat.small 1048576 p0 ∧ 0 ≤ laws_szCell p0 p1 ∧ laws_szCell p0 p1 ≤ 1048576 := by
  unfold laws_szCell at h ⊢
  obtain ⟨g0, g1⟩ := hg
  rw [wrap_sub (a := p1) h0 h1 (n := p0.Key.size) (good_str g0)] at h ⊢
  have c1 : ¬ (p1 - (p0.Key.size : Int)) < 0 := no_neg h
  rw [decide_eq_false c1, cond_false] at h ⊢
  have b1 : 0 ≤ (p1 - (p0.Key.size : Int)) := by omega
  have e1 : (p1 - (p0.Key.size : Int)) ≤ 1048576 := by omega
  have s0 : p0.Key.size ≤ 1048576 := by omega
  rw [wrap_sub (a := (p1 - (p0.Key.size : Int))) b1 e1 (n := p0.Val.size) (good_str g1)] at h ⊢
  have c2 : ¬ ((p1 - (p0.Key.size : Int)) - (p0.Val.size : Int)) < 0 := no_neg h
  rw [decide_eq_false c2, cond_false] at h ⊢
  have b2 : 0 ≤ ((p1 - (p0.Key.size : Int)) - (p0.Val.size : Int)) := by omega
  have e2 : ((p1 - (p0.Key.size : Int)) - (p0.Val.size : Int)) ≤ 1048576 := by omega
  have s1 : p0.Val.size ≤ 1048576 := by omega
  exact ⟨⟨s0, s1⟩, b2, e2⟩
theorem laws_szCellS_l1_eq (p0 : List Cell) (p1 : Int) : ∀ n s i, laws_szCellS_l1 p0 p1 n s i = szL laws_szCell p0 n s i := by
  intro n
  induction n with
  | zero => intro s i; rfl
  | succ n ih => intro s i; rw [laws_szCellS_l1, szL, ih]
theorem laws_szCellS_small (p0 : List Cell) (p1 : Int) (h0 : 0 ≤ p1) (h1 : p1 ≤ 1048576) (hg : Dat.good p0) (h : ¬ laws_szCellS p0 p1 < 0) : Dat.small 1048576 p0 ∧ 0 ≤ laws_szCellS p0 p1 ∧ laws_szCellS p0 p1 ≤ 1048576 := by
  unfold laws_szCellS at h ⊢
  rw [wrap_sub h0 h1 hg.1] at h ⊢
  have hc := no_neg h
  rw [decide_eq_false hc, cond_false, laws_szCellS_l1_eq] at h ⊢
  obtain ⟨h2, h3, h4⟩ := szL_small (f := laws_szCell) (xs := p0) laws_szCell_small hg.2 _ _ 0 rfl (by omega) (by omega) h
  refine ⟨⟨by omega, fun x hx => ?_⟩, h3, h4⟩
  obtain ⟨j, hj⟩ := List.getElem?_of_mem hx
  exact h2 j x (Nat.zero_le _) hj
theorem laws_szCall_small (p0 : Call) (p1 : Int) (h0 : 0 ≤ p1) (h1 : p1 ≤ 1048576) (hg : Dat.good p0) (h : ¬ laws_szCall p0 p1 < 0) : Dat.small 1048576 p0 ∧ 0 ≤ laws_szCall p0 p1 ∧ laws_szCall p0 p1 ≤ 1048576 := by
  unfold laws_szCall at h ⊢
  obtain ⟨g0, g1, g2, g3, g4, g5⟩ := hg
  rw [wrap_sub (a := p1) h0 h1 (n := p0.Name.size) (good_str g1)] at h ⊢
  have c1 : ¬ (p1 - (p0.Name.size : Int)) < 0 := no_neg h
  rw [decide_eq_false c1, cond_false] at h ⊢
  have b1 : 0 ≤ (p1 - (p0.Name.size : Int)) := by omega
  have e1 : (p1 - (p0.Name.size : Int)) ≤ 1048576 := by omega
  have s1 : p0.Name.size ≤ 1048576 := by omega
  rw [wrap_sub (a := (p1 - (p0.Name.size : Int))) b1 e1 (n := p0.To.size) (good_str g2)] at h ⊢
  have c2 : ¬ ((p1 - (p0.Name.size : Int)) - (p0.To.size : Int)) < 0 := no_neg h
  rw [decide_eq_false c2, cond_false] at h ⊢
  have b2 : 0 ≤ ((p1 - (p0.Name.size : Int)) - (p0.To.size : Int)) := by omega
  have e2 : ((p1 - (p0.Name.size : Int)) - (p0.To.size : Int)) ≤ 1048576 := by omega
  have s2 : p0.To.size ≤ 1048576 := by omega
  rw [wrap_sub (a := ((p1 - (p0.Name.size : Int)) - (p0.To.size : Int))) b2 e2 (n := p0.Text.size) (good_str g5)] at h ⊢
  have c3 : ¬ (((p1 - (p0.Name.size : Int)) - (p0.To.size : Int)) - (p0.Text.size : Int)) < 0 := no_neg h
  rw [decide_eq_false c3, cond_false] at h ⊢
  have b3 : 0 ≤ (((p1 - (p0.Name.size : Int)) - (p0.To.size : Int)) - (p0.Text.size : Int)) := by omega
  have e3 : (((p1 - (p0.Name.size : Int)) - (p0.To.size : Int)) - (p0.Text.size : Int)) ≤ 1048576 := by omega
  have s5 : p0.Text.size ≤ 1048576 := by omega
  exact ⟨⟨trivial, s1, s2, trivial, trivial, s5⟩, b3, e3⟩
theorem laws_szCallS_l1_eq (p0 : List Call) (p1 : Int) : ∀ n s i, laws_szCallS_l1 p0 p1 n s i = szL laws_szCall p0 n s i := by
  intro n
  induction n with
  | zero => intro s i; rfl
  | succ n ih => intro s i; rw [laws_szCallS_l1, szL, ih]
theorem laws_szCallS_small (p0 : List Call) (p1 : Int) (h0 : 0 ≤ p1) (h1 : p1 ≤ 1048576) (hg : Dat.good p0) (h : ¬ laws_szCallS p0 p1 < 0) : Dat.small 1048576 p0 ∧ 0 ≤ laws_szCallS p0 p1 ∧ laws_szCallS p0 p1 ≤ 1048576 := by
  unfold laws_szCallS at h ⊢
  rw [wrap_sub h0 h1 hg.1] at h ⊢
  have hc := no_neg h
  rw [decide_eq_false hc, cond_false, laws_szCallS_l1_eq] at h ⊢
  obtain ⟨h2, h3, h4⟩ := szL_small (f := laws_szCall) (xs := p0) laws_szCall_small hg.2 _ _ 0 rfl (by omega) (by omega) h
  refine ⟨⟨by omega, fun x hx => ?_⟩, h3, h4⟩
  obtain ⟨j, hj⟩ := List.getElem?_of_mem hx
  exact h2 j x (Nat.zero_le _) hj
theorem laws_szAnswer_small (p0 : Answer) (p1 : Int) (h0 : 0 ≤ p1) (h1 : p1 ≤ 1048576) (hg : Dat.good p0) (h : ¬ laws_szAnswer p0 p1 < 0) : Dat.small 1048576 p0 ∧ 0 ≤ laws_szAnswer p0 p1 ∧ laws_szAnswer p0 p1 ≤ 1048576 := by
  unfold laws_szAnswer at h ⊢
  obtain ⟨g0, g1, g2⟩ := hg
  rw [wrap_sub (a := p1) h0 h1 (n := p0.Text.size) (good_str g2)] at h ⊢
  have c1 : ¬ (p1 - (p0.Text.size : Int)) < 0 := no_neg h
  rw [decide_eq_false c1, cond_false] at h ⊢
  have b1 : 0 ≤ (p1 - (p0.Text.size : Int)) := by omega
  have e1 : (p1 - (p0.Text.size : Int)) ≤ 1048576 := by omega
  have s2 : p0.Text.size ≤ 1048576 := by omega
  exact ⟨⟨trivial, trivial, s2⟩, b1, e1⟩
theorem laws_szAnswerS_l1_eq (p0 : List Answer) (p1 : Int) : ∀ n s i, laws_szAnswerS_l1 p0 p1 n s i = szL laws_szAnswer p0 n s i := by
  intro n
  induction n with
  | zero => intro s i; rfl
  | succ n ih => intro s i; rw [laws_szAnswerS_l1, szL, ih]
theorem laws_szAnswerS_small (p0 : List Answer) (p1 : Int) (h0 : 0 ≤ p1) (h1 : p1 ≤ 1048576) (hg : Dat.good p0) (h : ¬ laws_szAnswerS p0 p1 < 0) : Dat.small 1048576 p0 ∧ 0 ≤ laws_szAnswerS p0 p1 ∧ laws_szAnswerS p0 p1 ≤ 1048576 := by
  unfold laws_szAnswerS at h ⊢
  rw [wrap_sub h0 h1 hg.1] at h ⊢
  have hc := no_neg h
  rw [decide_eq_false hc, cond_false, laws_szAnswerS_l1_eq] at h ⊢
  obtain ⟨h2, h3, h4⟩ := szL_small (f := laws_szAnswer) (xs := p0) laws_szAnswer_small hg.2 _ _ 0 rfl (by omega) (by omega) h
  refine ⟨⟨by omega, fun x hx => ?_⟩, h3, h4⟩
  obtain ⟨j, hj⟩ := List.getElem?_of_mem hx
  exact h2 j x (Nat.zero_le _) hj
theorem laws_szStringS_l1_eq (p0 : List ByteArray) (p1 : Int) : ∀ n s i, laws_szStringS_l1 p0 p1 n s i = szL laws_szString p0 n s i := by
  intro n
  induction n with
  | zero => intro s i; rfl
  | succ n ih => intro s i; rw [laws_szStringS_l1, szL, ih]; rfl
theorem laws_szStringS_small (p0 : List ByteArray) (p1 : Int) (h0 : 0 ≤ p1) (h1 : p1 ≤ 1048576) (hg : Dat.good p0) (h : ¬ laws_szStringS p0 p1 < 0) : Dat.small 1048576 p0 ∧ 0 ≤ laws_szStringS p0 p1 ∧ laws_szStringS p0 p1 ≤ 1048576 := by
  unfold laws_szStringS at h ⊢
  rw [wrap_sub h0 h1 hg.1] at h ⊢
  have hc := no_neg h
  rw [decide_eq_false hc, cond_false, laws_szStringS_l1_eq] at h ⊢
  obtain ⟨h2, h3, h4⟩ := szL_small (f := laws_szString) (xs := p0) laws_szString_small hg.2 _ _ 0 rfl (by omega) (by omega) h
  refine ⟨⟨by omega, fun x hx => ?_⟩, h3, h4⟩
  obtain ⟨j, hj⟩ := List.getElem?_of_mem hx
  exact h2 j x (Nat.zero_le _) hj
theorem laws_szTouch_small (p0 : Touch) (p1 : Int) (h0 : 0 ≤ p1) (h1 : p1 ≤ 1048576) (hg : Dat.good p0) (h : ¬ laws_szTouch p0 p1 < 0) : Dat.small 1048576 p0 ∧ 0 ≤ laws_szTouch p0 p1 ∧ laws_szTouch p0 p1 ≤ 1048576 := by
  unfold laws_szTouch at h ⊢
  obtain ⟨g0, g1⟩ := hg
  have c1 : ¬ (laws_szStringS p0.Reads p1) < 0 := no_neg h
  rw [decide_eq_false c1, cond_false] at h ⊢
  obtain ⟨s0, b1, e1⟩ := laws_szStringS_small p0.Reads p1 h0 h1 g0 c1
  have c2 : ¬ (laws_szStringS p0.Writes (laws_szStringS p0.Reads p1)) < 0 := no_neg h
  rw [decide_eq_false c2, cond_false] at h ⊢
  obtain ⟨s1, b2, e2⟩ := laws_szStringS_small p0.Writes (laws_szStringS p0.Reads p1) b1 e1 g1 c2
  exact ⟨⟨s0, s1⟩, b2, e2⟩
theorem laws_szIntS_small (p0 : List Int) (p1 : Int) (h0 : 0 ≤ p1) (h1 : p1 ≤ 1048576) (hg : Dat.good p0) (h : ¬ laws_szIntS p0 p1 < 0) : Dat.small 1048576 p0 ∧ 0 ≤ laws_szIntS p0 p1 ∧ laws_szIntS p0 p1 ≤ 1048576 := by
  unfold laws_szIntS at h ⊢
  rw [wrap_sub h0 h1 hg.1] at h ⊢
  have hc := no_neg h
  rw [decide_eq_false hc] at h ⊢
  exact ⟨⟨by omega, fun _ _ => trivial⟩, by show 0 ≤ p1 - (p0.length : Int); omega, by show p1 - (p0.length : Int) ≤ 1048576; omega⟩
theorem laws_szTx_small (p0 : Tx) (p1 : Int) (h0 : 0 ≤ p1) (h1 : p1 ≤ 1048576) (hg : Dat.good p0) (h : ¬ laws_szTx p0 p1 < 0) : Dat.small 1048576 p0 ∧ 0 ≤ laws_szTx p0 p1 ∧ laws_szTx p0 p1 ≤ 1048576 := by
  unfold laws_szTx at h ⊢
  obtain ⟨g0, g1, g2, g3, g4, g5, g6, g7, g8⟩ := hg
  have c1 : ¬ (laws_szCallS p0.Calls p1) < 0 := no_neg h
  rw [decide_eq_false c1, cond_false] at h ⊢
  obtain ⟨s4, b1, e1⟩ := laws_szCallS_small p0.Calls p1 h0 h1 g4 c1
  have c2 : ¬ (laws_szAnswerS p0.Answers (laws_szCallS p0.Calls p1)) < 0 := no_neg h
  rw [decide_eq_false c2, cond_false] at h ⊢
  obtain ⟨s5, b2, e2⟩ := laws_szAnswerS_small p0.Answers (laws_szCallS p0.Calls p1) b1 e1 g5 c2
  have c3 : ¬ (laws_szTouch p0.Touch (laws_szAnswerS p0.Answers (laws_szCallS p0.Calls p1))) < 0 := no_neg h
  rw [decide_eq_false c3, cond_false] at h ⊢
  obtain ⟨s6, b3, e3⟩ := laws_szTouch_small p0.Touch (laws_szAnswerS p0.Answers (laws_szCallS p0.Calls p1)) b2 e2 g6 c3
  have c4 : ¬ (laws_szIntS p0.Marks (laws_szTouch p0.Touch (laws_szAnswerS p0.Answers (laws_szCallS p0.Calls p1)))) < 0 := no_neg h
  rw [decide_eq_false c4, cond_false] at h ⊢
  obtain ⟨s7, b4, e4⟩ := laws_szIntS_small p0.Marks (laws_szTouch p0.Touch (laws_szAnswerS p0.Answers (laws_szCallS p0.Calls p1))) b3 e3 g7 c4
  exact ⟨⟨trivial, trivial, trivial, trivial, s4, s5, s6, s7, trivial⟩, b4, e4⟩
theorem laws_szTxS_l1_eq (p0 : List Tx) (p1 : Int) : ∀ n s i, laws_szTxS_l1 p0 p1 n s i = szL laws_szTx p0 n s i := by
  intro n
  induction n with
  | zero => intro s i; rfl
  | succ n ih => intro s i; rw [laws_szTxS_l1, szL, ih]
theorem laws_szTxS_small (p0 : List Tx) (p1 : Int) (h0 : 0 ≤ p1) (h1 : p1 ≤ 1048576) (hg : Dat.good p0) (h : ¬ laws_szTxS p0 p1 < 0) : Dat.small 1048576 p0 ∧ 0 ≤ laws_szTxS p0 p1 ∧ laws_szTxS p0 p1 ≤ 1048576 := by
  unfold laws_szTxS at h ⊢
  rw [wrap_sub h0 h1 hg.1] at h ⊢
  have hc := no_neg h
  rw [decide_eq_false hc, cond_false, laws_szTxS_l1_eq] at h ⊢
  obtain ⟨h2, h3, h4⟩ := szL_small (f := laws_szTx) (xs := p0) laws_szTx_small hg.2 _ _ 0 rfl (by omega) (by omega) h
  refine ⟨⟨by omega, fun x hx => ?_⟩, h3, h4⟩
  obtain ⟨j, hj⟩ := List.getElem?_of_mem hx
  exact h2 j x (Nat.zero_le _) hj
theorem laws_szSlot_small (p0 : Slot) (p1 : Int) (h0 : 0 ≤ p1) (h1 : p1 ≤ 1048576) (hg : Dat.good p0) (h : ¬ laws_szSlot p0 p1 < 0) : Dat.small 1048576 p0 ∧ 0 ≤ laws_szSlot p0 p1 ∧ laws_szSlot p0 p1 ≤ 1048576 := by
  unfold laws_szSlot at h ⊢
  obtain ⟨g0, g1, g2⟩ := hg
  have c1 : ¬ (laws_szCellS p0.Cells p1) < 0 := no_neg h
  rw [decide_eq_false c1, cond_false] at h ⊢
  obtain ⟨s1, b1, e1⟩ := laws_szCellS_small p0.Cells p1 h0 h1 g1 c1
  exact ⟨⟨trivial, s1, trivial⟩, b1, e1⟩
theorem laws_szSlotS_l1_eq (p0 : List Slot) (p1 : Int) : ∀ n s i, laws_szSlotS_l1 p0 p1 n s i = szL laws_szSlot p0 n s i := by
  intro n
  induction n with
  | zero => intro s i; rfl
  | succ n ih => intro s i; rw [laws_szSlotS_l1, szL, ih]
theorem laws_szSlotS_small (p0 : List Slot) (p1 : Int) (h0 : 0 ≤ p1) (h1 : p1 ≤ 1048576) (hg : Dat.good p0) (h : ¬ laws_szSlotS p0 p1 < 0) : Dat.small 1048576 p0 ∧ 0 ≤ laws_szSlotS p0 p1 ∧ laws_szSlotS p0 p1 ≤ 1048576 := by
  unfold laws_szSlotS at h ⊢
  rw [wrap_sub h0 h1 hg.1] at h ⊢
  have hc := no_neg h
  rw [decide_eq_false hc, cond_false, laws_szSlotS_l1_eq] at h ⊢
  obtain ⟨h2, h3, h4⟩ := szL_small (f := laws_szSlot) (xs := p0) laws_szSlot_small hg.2 _ _ 0 rfl (by omega) (by omega) h
  refine ⟨⟨by omega, fun x hx => ?_⟩, h3, h4⟩
  obtain ⟨j, hj⟩ := List.getElem?_of_mem hx
  exact h2 j x (Nat.zero_le _) hj
theorem laws_szJournal_small (p0 : Journal) (p1 : Int) (h0 : 0 ≤ p1) (h1 : p1 ≤ 1048576) (hg : Dat.good p0) (h : ¬ laws_szJournal p0 p1 < 0) : Dat.small 1048576 p0 ∧ 0 ≤ laws_szJournal p0 p1 ∧ laws_szJournal p0 p1 ≤ 1048576 := by
  unfold laws_szJournal at h ⊢
  obtain ⟨g0, g1⟩ := hg
  rw [wrap_sub (a := p1) h0 h1 (n := p0.Text.size) (good_str g0)] at h ⊢
  have c1 : ¬ (p1 - (p0.Text.size : Int)) < 0 := no_neg h
  rw [decide_eq_false c1, cond_false] at h ⊢
  have b1 : 0 ≤ (p1 - (p0.Text.size : Int)) := by omega
  have e1 : (p1 - (p0.Text.size : Int)) ≤ 1048576 := by omega
  have s0 : p0.Text.size ≤ 1048576 := by omega
  exact ⟨⟨s0, trivial⟩, b1, e1⟩
theorem laws_szDisk_small (p0 : Disk) (p1 : Int) (h0 : 0 ≤ p1) (h1 : p1 ≤ 1048576) (hg : Dat.good p0) (h : ¬ laws_szDisk p0 p1 < 0) : Dat.small 1048576 p0 ∧ 0 ≤ laws_szDisk p0 p1 ∧ laws_szDisk p0 p1 ≤ 1048576 := by
  unfold laws_szDisk at h ⊢
  obtain ⟨g0, g1⟩ := hg
  have c1 : ¬ (laws_szSlotS p0.Slots p1) < 0 := no_neg h
  rw [decide_eq_false c1, cond_false] at h ⊢
  obtain ⟨s0, b1, e1⟩ := laws_szSlotS_small p0.Slots p1 h0 h1 g0 c1
  have c2 : ¬ (laws_szJournal p0.Journal (laws_szSlotS p0.Slots p1)) < 0 := no_neg h
  rw [decide_eq_false c2, cond_false] at h ⊢
  obtain ⟨s1, b2, e2⟩ := laws_szJournal_small p0.Journal (laws_szSlotS p0.Slots p1) b1 e1 g1 c2
  exact ⟨⟨s0, s1⟩, b2, e2⟩
theorem laws_szStep_small (p0 : Step) (p1 : Int) (h0 : 0 ≤ p1) (h1 : p1 ≤ 1048576) (hg : Dat.good p0) (h : ¬ laws_szStep p0 p1 < 0) : Dat.small 1048576 p0 ∧ 0 ≤ laws_szStep p0 p1 ∧ laws_szStep p0 p1 ≤ 1048576 := by
  unfold laws_szStep at h ⊢
  obtain ⟨g0, g1⟩ := hg
  have c1 : ¬ (laws_szCall p0.Call p1) < 0 := no_neg h
  rw [decide_eq_false c1, cond_false] at h ⊢
  obtain ⟨s1, b1, e1⟩ := laws_szCall_small p0.Call p1 h0 h1 g1 c1
  exact ⟨⟨trivial, s1⟩, b1, e1⟩
theorem laws_szStepS_l1_eq (p0 : List Step) (p1 : Int) : ∀ n s i, laws_szStepS_l1 p0 p1 n s i = szL laws_szStep p0 n s i := by
  intro n
  induction n with
  | zero => intro s i; rfl
  | succ n ih => intro s i; rw [laws_szStepS_l1, szL, ih]
theorem laws_szStepS_small (p0 : List Step) (p1 : Int) (h0 : 0 ≤ p1) (h1 : p1 ≤ 1048576) (hg : Dat.good p0) (h : ¬ laws_szStepS p0 p1 < 0) : Dat.small 1048576 p0 ∧ 0 ≤ laws_szStepS p0 p1 ∧ laws_szStepS p0 p1 ≤ 1048576 := by
  unfold laws_szStepS at h ⊢
  rw [wrap_sub h0 h1 hg.1] at h ⊢
  have hc := no_neg h
  rw [decide_eq_false hc, cond_false, laws_szStepS_l1_eq] at h ⊢
  obtain ⟨h2, h3, h4⟩ := szL_small (f := laws_szStep) (xs := p0) laws_szStep_small hg.2 _ _ 0 rfl (by omega) (by omega) h
  refine ⟨⟨by omega, fun x hx => ?_⟩, h3, h4⟩
  obtain ⟨j, hj⟩ := List.getElem?_of_mem hx
  exact h2 j x (Nat.zero_le _) hj
theorem laws_szEntry_small (p0 : Entry) (p1 : Int) (h0 : 0 ≤ p1) (h1 : p1 ≤ 1048576) (hg : Dat.good p0) (h : ¬ laws_szEntry p0 p1 < 0) : Dat.small 1048576 p0 ∧ 0 ≤ laws_szEntry p0 p1 ∧ laws_szEntry p0 p1 ≤ 1048576 := by
  unfold laws_szEntry at h ⊢
  obtain ⟨g0, g1, g2, g3, g4, g5, g6, g7⟩ := hg
  have c1 : ¬ (laws_szStepS p0.Steps p1) < 0 := no_neg h
  rw [decide_eq_false c1, cond_false] at h ⊢
  obtain ⟨s3, b1, e1⟩ := laws_szStepS_small p0.Steps p1 h0 h1 g3 c1
  have c2 : ¬ (laws_szAnswerS p0.Answers (laws_szStepS p0.Steps p1)) < 0 := no_neg h
  rw [decide_eq_false c2, cond_false] at h ⊢
  obtain ⟨s4, b2, e2⟩ := laws_szAnswerS_small p0.Answers (laws_szStepS p0.Steps p1) b1 e1 g4 c2
  exact ⟨⟨trivial, trivial, trivial, s3, s4, trivial, trivial, trivial⟩, b2, e2⟩
theorem laws_szEntryS_l1_eq (p0 : List Entry) (p1 : Int) : ∀ n s i, laws_szEntryS_l1 p0 p1 n s i = szL laws_szEntry p0 n s i := by
  intro n
  induction n with
  | zero => intro s i; rfl
  | succ n ih => intro s i; rw [laws_szEntryS_l1, szL, ih]
theorem laws_szEntryS_small (p0 : List Entry) (p1 : Int) (h0 : 0 ≤ p1) (h1 : p1 ≤ 1048576) (hg : Dat.good p0) (h : ¬ laws_szEntryS p0 p1 < 0) : Dat.small 1048576 p0 ∧ 0 ≤ laws_szEntryS p0 p1 ∧ laws_szEntryS p0 p1 ≤ 1048576 := by
  unfold laws_szEntryS at h ⊢
  rw [wrap_sub h0 h1 hg.1] at h ⊢
  have hc := no_neg h
  rw [decide_eq_false hc, cond_false, laws_szEntryS_l1_eq] at h ⊢
  obtain ⟨h2, h3, h4⟩ := szL_small (f := laws_szEntry) (xs := p0) laws_szEntry_small hg.2 _ _ 0 rfl (by omega) (by omega) h
  refine ⟨⟨by omega, fun x hx => ?_⟩, h3, h4⟩
  obtain ⟨j, hj⟩ := List.getElem?_of_mem hx
  exact h2 j x (Nat.zero_le _) hj
theorem laws_szKernel_small (p0 : Kernel) (p1 : Int) (h0 : 0 ≤ p1) (h1 : p1 ≤ 1048576) (hg : Dat.good p0) (h : ¬ laws_szKernel p0 p1 < 0) : Dat.small 1048576 p0 ∧ 0 ≤ laws_szKernel p0 p1 ∧ laws_szKernel p0 p1 ≤ 1048576 := by
  unfold laws_szKernel at h ⊢
  obtain ⟨g0, g1, g2, g3, g4, g5, g6, g7, g8⟩ := hg
  have c1 : ¬ (laws_szCellS p0.Store p1) < 0 := no_neg h
  rw [decide_eq_false c1, cond_false] at h ⊢
  obtain ⟨s0, b1, e1⟩ := laws_szCellS_small p0.Store p1 h0 h1 g0 c1
  have c2 : ¬ (laws_szTxS p0.Txs (laws_szCellS p0.Store p1)) < 0 := no_neg h
  rw [decide_eq_false c2, cond_false] at h ⊢
  obtain ⟨s1, b2, e2⟩ := laws_szTxS_small p0.Txs (laws_szCellS p0.Store p1) b1 e1 g1 c2
  have c3 : ¬ (laws_szDisk p0.Disk (laws_szTxS p0.Txs (laws_szCellS p0.Store p1))) < 0 := no_neg h
  rw [decide_eq_false c3, cond_false] at h ⊢
  obtain ⟨s2, b3, e3⟩ := laws_szDisk_small p0.Disk (laws_szTxS p0.Txs (laws_szCellS p0.Store p1)) b2 e2 g2 c3
  have c4 : ¬ (laws_szEntryS p0.History (laws_szDisk p0.Disk (laws_szTxS p0.Txs (laws_szCellS p0.Store p1)))) < 0 := no_neg h
  rw [decide_eq_false c4, cond_false] at h ⊢
  obtain ⟨s6, b4, e4⟩ := laws_szEntryS_small p0.History (laws_szDisk p0.Disk (laws_szTxS p0.Txs (laws_szCellS p0.Store p1))) b3 e3 g6 c4
  have c5 : ¬ (laws_szStringS p0.Seen (laws_szEntryS p0.History (laws_szDisk p0.Disk (laws_szTxS p0.Txs (laws_szCellS p0.Store p1))))) < 0 := no_neg h
  rw [decide_eq_false c5, cond_false] at h ⊢
  obtain ⟨s7, b5, e5⟩ := laws_szStringS_small p0.Seen (laws_szEntryS p0.History (laws_szDisk p0.Disk (laws_szTxS p0.Txs (laws_szCellS p0.Store p1)))) b4 e4 g7 c5
  exact ⟨⟨s0, s1, s2, trivial, trivial, trivial, s6, s7, trivial⟩, b5, e5⟩
end Go.Proofs.YtppialklomgajaaGreatDoor.Fw
