/-
  Contracts of library functions that hand back errors or bytes, carried over to the abstract machine: Atoi, Fields, DecodeString, EncodeToString. No condition.
-/
import Derived.Test.YtmjjcihoobnbgaaDoorB
namespace Go.Proofs.YtmjjcihoobnbgaaDoor.Fw
open Go.RowKit
set_option linter.unusedVariables false
set_option maxRecDepth 100000

theorem k_EncodedLen0 : CTs 126 [.o (.c (.int .i64 0))] [.c (.int .i64 0)] := CT.flat fun w vs hG hA => by
  obtain rfl := argsC (us := [.int .i64 0]) hA
  refine (Tryd.hex_EncodedLen 0 (by omega) (by omega) w).mono fun e w2 h => ?_
  obtain ⟨h1, rfl⟩ := h
  exact ⟨h1, Below.refl _ _⟩
theorem fok126 : FnOk Tryd.prog 126 := ⟨_, Tryd.func126, rfl, by kernel_rfl⟩
theorem fok127 : FnOk Tryd.prog 127 := ⟨_, Tryd.func127, rfl, by kernel_rfl⟩
theorem c_hexEncode0 : CTs 127 [.o (.sl UInt8 instDatUInt8 ([] : List UInt8)), .o (.sl UInt8 instDatUInt8 ([] : List UInt8))] [Re.c (.int .i64 0)] := by
  refine en Tryd.func127 Tryd.ntmps127 fun w hG hgd => ?_
  refine ad 16 ?_
  refine Run.loopM (ι := Unit) (T := ()) (fun _ => ()) (fun _ => ⟨33, 1, [(1, .sl 0 0), (9, .v (.int .i64 0)), (10, .v (.int .i64 0))], [(0, .ros UInt8 instDatUInt8 ([] : List UInt8))]⟩) (fun _ => True) (fun _ => 0) () [1] [1] rfl trivial su (by decide) ?_
  rintro ⟨⟩ _ _
  refine ad 5 ?_
  refine cd (fun h => absurd h (show ¬ decide ((0 : Int) < 0) = true by decide)) (fun h => ?_)
  refine ad 8 ?_
  exact rz (rs := [.tmp 4]) rfl
theorem c_hexEncStr0 : CTs 116 [.o (.sl UInt8 instDatUInt8 ([] : List UInt8))] [Re.c (.string ⟨#[]⟩)] := by
  refine en Tryd.func116 Tryd.ntmps116 fun w hG hgd => ?_
  refine ad 8 ?_
  refine op (cl k_EncodedLen0 fok126) ?_
  refine op (ma 0 (0 : UInt8)) ?_
  refine ad 6 ?_
  refine op (cl c_hexEncode0 fok127) ?_
  refine ad 4 ?_
  refine op (ts ([] : List UInt8)) ?_
  refine ad 2 ?_
  exact rz (rs := [.tmp 2]) rfl
theorem k_hexEncA (xs : List UInt8) (h : 2 * xs.length ≤ 281474976710656) : CTs 116 [.o (.sl UInt8 instDatUInt8 xs)] [.c (.string (hexEnc xs))] := by
  by_cases hne : xs = []
  · subst hne
    exact c_hexEncStr0
  · exact k_hexEnc xs hne h

def atoi (s : ByteArray) : Int × Bool := match Lib.atoiAll s.data.toList with
  | .ok v => (v, true)
  | .range => (Lib.atoiSat s.data.toList, false)
  | _ => (0, false)
theorem atoi_I64 (s : ByteArray) : I64 (atoi s).1 := by
  unfold atoi
  cases h : Lib.atoiAll s.data.toList with
  | ok v =>
    show I64 v
    unfold Lib.atoiAll at h
    split at h
    · cases h
    · simp only at h
      split at h
      · cases h
      · cases h
      · split at h
        · cases h
        · split at h
          · cases h
          · cases h
            unfold I64
            split <;> omega
  | range =>
    show I64 (Lib.atoiSat s.data.toList)
    unfold Lib.atoiSat I64
    split <;> omega
  | _ => exact (show I64 0 from ⟨by decide, by decide⟩)
theorem resE {w w' : World} {x u : Value} (hb : Below w.heap.size w w') : ResR (Old w) w w' (.tuple #[x, u]) [.c x, .c u] :=
  ⟨Keep.of_below hb fun _ h => h, [x, u], [], rfl, ⟨[], [], rfl, ⟨rfl, rfl⟩, [], [], rfl, ⟨rfl, rfl⟩, rfl⟩, List.nodup_nil, fun b hb => by cases hb⟩
theorem k_atoi (p0 : ByteArray) (hz : p0.size ≤ 281474976710656) : CTEs 105 [.o (.c (.string p0))] (fun u => [.c (.int .i64 (atoi p0).1), .c u]) (atoi p0).2 := fun w vs hG hA => by
  obtain rfl := argsC (us := [.string p0]) hA
  unfold atoi
  cases h : Lib.atoiAll p0.data.toList with
  | ok v =>
    refine (Tryd.strconv_Atoi_ok p0 (by omega) v h w).mono fun e w2 hr => ?_
    obtain ⟨rfl, hw⟩ := hr
    refine ⟨.nilIface, rfl, _, rfl, resE ?_⟩
    rcases hw with rfl | ⟨t, rfl⟩
    · exact Below.refl _ _
    · exact Lib.bytesWorld_below _ _ _
  | range =>
    obtain ⟨te, pe, hE⟩ := Gl6 w hG
    refine (Any.strconv_Atoi_range Tryd.laysC172 p0 hz h _ w hE (.inr ⟨te, pe, rfl⟩)).mono fun e w2 hr => ?_
    obtain ⟨N, rfl, _, _, hb⟩ := hr
    exact ⟨_, ⟨_, _, rfl⟩, _, rfl, resE hb⟩
  | _ =>
    obtain ⟨te, pe, hE⟩ := Gl5 w hG
    refine (Any.strconv_Atoi_syntax Tryd.laysC172 p0 hz h _ w hE (.inr ⟨te, pe, rfl⟩)).mono fun e w2 hr => ?_
    obtain ⟨N, rfl, _, _, hb⟩ := hr
    exact ⟨_, ⟨_, _, rfl⟩, _, rfl, resE hb⟩

theorem even_of {n : Nat} (h : (!decide (Int.tmod (n : Int) 2 = 0)) = false) : n % 2 = 0 := by
  have h2 : Int.tmod (n : Int) 2 = 0 := by simpa using h
  have h3 : ((n % 2 : Nat) : Int) = 0 := by rw [← h2]; rfl
  omega
/-- A row that a library call hands back, as data. -/
theorem slo_row {α : Type} [Dat α] {w : World} {base T n : Nat} {v : Value} {mk : α → Value} {xs : List α} (hsz : Dat.sz α = 1) (ho : ∀ x, x ∈ xs → Dat.own w [mk x] x []) (h : w.ownsRow base T 1 v n (xs.map mk)) (hn : n = xs.length) :
    ∃ F, SlO w v xs F ∧ F.Nodup ∧ ∀ b ∈ F, base ≤ b := by
  subst hn
  obtain ⟨hl, h⟩ := h
  rcases h with ⟨rfl, hz⟩ | ⟨g, cap, cur, rfl, hg, hh, h1, h2, h3, h4⟩
  · exact ⟨[], .inl ⟨rfl, List.length_eq_zero_iff.1 hz, rfl⟩, List.nodup_nil, fun b hb => by cases hb⟩
  · refine ⟨[g], .inr ⟨g, cap, cur, T, List.replicate xs.length [], rfl, hh, h1, h2, by rw [hsz, h3]; exact Nat.le_refl _, ?_, by simp, fun i x hi => ⟨[], ?_, ?_⟩⟩, by simp, fun b hb => by rw [List.mem_singleton.1 hb]; exact hg⟩
    · have : ∀ n, (List.replicate n ([] : List Nat)).flatten = [] := by
        intro n
        induction n with
        | zero => rfl
        | succ n ih => rw [List.replicate_succ, List.flatten_cons, ih]; rfl
      rw [this]
    · have hlt := (List.getElem?_eq_some_iff.1 hi).1
      simp [hlt]
    · have hlt := (List.getElem?_eq_some_iff.1 hi).1
      have hget : cur.toList[i]? = some (mk x) := by
        have := congrArg (fun l => l[i]?) h4
        simp only [List.getElem?_take, List.getElem?_map, hi, Option.map_some] at this
        rw [if_pos (by omega)] at this
        exact this
      have e : (cur.toList.drop (i * Dat.sz α)).take (Dat.sz α) = [mk x] := by
        rw [hsz, Nat.mul_one]
        obtain ⟨hi2, hx⟩ := List.getElem?_eq_some_iff.1 hget
        rw [List.drop_eq_getElem_cons hi2, hx]
        rfl
      rw [e]
      exact ho x (List.mem_of_getElem? hi)
def decodeS (s : ByteArray) : List UInt8 × Bool := ((Lib.Hx.decode s.data.toList).1, match (Lib.Hx.decode s.data.toList).2 with
  | .ok => true
  | _ => false)
theorem k_decode (p0 : ByteArray) (hz : p0.size ≤ 281474976710656) : CTEs 115 [.o (.c (.string p0))] (fun u => [.sl UInt8 instDatUInt8 (decodeS p0).1, .c u]) (decodeS p0).2 := fun w vs hG hA => by
  obtain rfl := argsC (us := [.string p0]) hA
  obtain ⟨te, pe, hE⟩ := Gl4 w hG
  refine (Tryd.hex_DecodeString_owns p0 w _ hE hz).mono fun e w2 hr => ?_
  obtain ⟨v, rfl, hrow, hb⟩ := hr
  obtain ⟨F, h1, h2, h3⟩ := slo_row (α := UInt8) (mk := fun b => Value.int .u8 (b.toNat : Int)) rfl (fun x _ => ⟨⟨rfl, trivial⟩, rfl⟩) hrow rfl
  refine ⟨_, ?_, _, rfl, Keep.of_below hb fun _ h => h, [v, _], F ++ [], rfl, ⟨F, [], rfl, h1, [], [], rfl, ⟨rfl, rfl⟩, rfl⟩, by rw [List.append_nil]; exact h2, fun b hbF => ?_⟩
  · unfold decodeS ErrIs
    cases hd : (Lib.Hx.decode p0.data.toList).2 with
    | ok => rfl
    | bad c => exact ⟨_, _, rfl⟩
    | odd => exact ⟨_, _, rfl⟩
  · rw [List.append_nil] at hbF
    have := h3 b hbF
    show ¬ b < w.heap.size
    omega
end Go.Proofs.YtmjjcihoobnbgaaDoor.Fw
