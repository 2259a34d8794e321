/-
  The texts RiO, RiY, RiR, RiCS, G, GXi of this proof, one behind the other: what each proves stands at its head. No condition.
-/
import Derived.Shelf.Spec.SlicesGrow
import Derived.WalkKit
import Derived.KernelRfl
import Derived.Test.YtifffdepmdnciaaGreatDoorProg
import Derived.Test.YtifffdepmdnciaaGreatDoorQSA
import Derived.Test.YtifffdepmdnciaaGreatDoorQSB
import Derived.Test.YtifffdepmdnciaaGreatDoorQSC
namespace Go.Proofs.YtifffdepmdnciaaGreatDoor.Ri
open Go.Proofs.YtifffdepmdnciaaGreatDoor.Fw
open Go.RowKit
set_option linter.unusedVariables false
set_option maxRecDepth 100000
theorem own_slo {α : Type} [Dat α] (s : Str α) (hf : flats s.fk = true) (hb : ¬ ByD α) {S : Nat → Prop} {w : World} {lo : Lo} {xs : List α} (h : OwnR S w lo xs) :
    ∃ F, SlO w (.slice lo.A lo.len lo.cap) xs F ∧ F.Nodup ∧ ∀ b ∈ F, ∃ A, lo.A = some A ∧ A.block = b := by
  rcases h with ⟨h1, h2, h3, rfl⟩ | ⟨g, arr, t, h1, h2, h3, h4, ⟨fz, h5, hz⟩, h6, h7, h8⟩
  · exact ⟨[], .inl ⟨by rw [h1, h2, h3], rfl, rfl⟩, List.nodup_nil, fun b hb => by cases hb⟩
  · obtain rfl : fz = (0, 0) := hz.elim id fun h => absurd h.1 hb
    refine ⟨[g], ?_, by simp, fun b hb => ⟨_, h1, (List.mem_singleton.1 hb).symm⟩⟩
    rw [h1]
    exact FlE.slo (fun i x hi w' => flat_own s hf (h8 i x hi)) h5 h2 (by rw [h2]; exact h3) h4 h6
theorem out_row {τ : Tab} {Z : Lw τ} {s : Sig} {y : OutT τ s} {e : Nat} {zs : List (τ.T e)} (hps : ptrs s.ps = []) (hrs : ptrs s.rs = []) (hrl : s.rs.length = 1) (ho : ∀ b, canO Z.O Z.ti b s.outs [] y = ([.sl b], [(b, .own e zs)], b + 1))
    {S K : Nat → Prop} {w w' : World} {v : Value} {us : List Value} {lo : Lo} (hK : ∀ b, K b → b < w.heap.size) (hS : ∀ b, S b → K b) (hk : Keep K w w') (hv : v = .slice lo.A lo.len lo.cap) (hb : ∀ b, lo.A = some b → ¬ K b.block) (hown : OwnR S w' lo zs) : OutOk Z s y S K w w' v (ptrU s.ps us) := by
  refine ⟨hk, hrs, S, fun b h => .inl h, fun b h => Nat.lt_of_lt_of_le (hK b (hS b h)) hk.size, [v], rfl, hrl.symm, fun b qs θq hl _ _ hp => ?_⟩
  obtain rfl : qs = [] := List.eq_nil_of_length_eq_zero (by rw [hl, hps]; rfl)
  have hp : ptrU s.ps us = [] := hp
  refine ⟨Ri.upd θq b lo, fun q hq => (by cases hq), ?_, ?_⟩
  · rw [ho, hp]
    refine ⟨v, [], rfl, ?_, rfl⟩
    show v = _
    rw [upd_at]
    exact hv
  · rw [ho]
    refine ⟨fun r e' h => ?_, fun r r' e e' b b' h h' _ _ _ => ?_⟩
    · cases List.mem_singleton.1 h
      refine ⟨?_, rfl, fun b' hb' => ?_⟩
      · show OwnR S w' (Ri.upd θq b lo b) zs
        rw [upd_at]
        exact hown
      · rw [upd_at] at hb'
        exact hb b' hb'
    · cases List.mem_singleton.1 h
      cases List.mem_singleton.1 h'
      rfl
theorem out_ins {τ : Tab} {Z : Lw τ} {s : Sig} {y : OutT τ s} {e : Nat} {zs : List (τ.T e)} (st : Str (τ.T e)) (hf : flats st.fk = true) (hps : ptrs s.ps = []) (hrs : ptrs s.rs = []) (hrl : s.rs.length = 1) (ho : ∀ b, canO Z.O Z.ti b s.outs [] y = ([.sl b], [(b, .own e zs)], b + 1))
    {S K : Nat → Prop} {w w' : World} {en : Ending} {F : List Nat} {us : List Value} (hK : ∀ b, K b → b < w.heap.size) (hS : ∀ b, S b → K b) (hF : ∀ b ∈ F, ¬ K b) (hq : InsQ zs F w en w') : ∃ v, en = .returned v ∧ OutOk Z s y S K w w' v (ptrU s.ps us) := by
  obtain ⟨v, F', hv, h1, h2, h3, h4, h5, h6, h7, h8⟩ := hq
  have hF' : ∀ b ∈ F', ¬ K b := fun b hb hk => by
    rcases h8 b hb with h | h
    · exact hF b h hk
    · have := hK b hk; omega
  have hk : Keep K w w' := ⟨h3, h4, h5, h6, fun b hb => h7 b (hK b hb) fun hf => hF b hf hb⟩
  rcases SlO.fl st hf h1 with ⟨q1, q2⟩ | ⟨g, cap, arr, T, q1, q2, q3, q4, q5, q6, q7⟩
  · exact ⟨v, hv, out_row (lo := ⟨none, 0, 0⟩) hps hrs hrl ho hK hS hk q1 (fun b hb => by cases hb) (.inl ⟨rfl, rfl, rfl, q2⟩)⟩
  · exact ⟨v, hv, out_row (lo := ⟨some ⟨g, 0, none⟩, zs.length, cap⟩) hps hrs hrl ho hK hS hk q1 (fun b hb => by cases hb; exact hF' g q6) (.inr ⟨g, arr, T, rfl, rfl, q3, q4, ⟨(0, 0), q2, .inl rfl⟩, q5, fun hS' => hF' g q6 (hS g hS'), fun i x hi => Dat.own_rd (q7 i x hi w') fun b hb => by cases hb⟩)⟩
theorem fnr {f : Nat} {fn : Func} (h : Tryz.prog.funcs[f]? = some fn) (hb : fn.body.isSome = true) (hn : (fn.name == "runtime.NumGoroutine") = false) : FnRun Tryz.prog f :=
  ⟨fn, h, (fun e => by rw [e] at hb; cases hb), (fun e => by rw [e] at hn; simp at hn)⟩
theorem ins_spec {α : Type} {x : List α × Int × List α × Unit} {y : List α × Unit} (h : insX x = some y) : ∃ (j : Nat) (c : α), x.2.1 = j ∧ j ≤ x.1.length ∧ x.1.length ≤ 1073741824 ∧ x.2.2.1 = [c] ∧ y = (insL x.1 j c, ()) := by
  obtain ⟨xs, k, ys, u⟩ := x
  unfold insX at h
  cases hc : (decide (0 ≤ k) && decide (k ≤ (xs.length : Int))) && (Nat.ble xs.length 1073741824 && Nat.beq ys.length 1) with
  | false => simp only [hc, cond_false] at h; cases h
  | true =>
    simp only [hc, cond_true] at h
    simp only [Bool.and_eq_true, decide_eq_true_eq] at hc
    obtain ⟨⟨h0, h1⟩, h2, h3⟩ := hc
    obtain ⟨c, rfl⟩ : ∃ c, ys = [c] := by
      have := Nat.eq_of_beq_eq_true h3
      match ys, this with
      | [c], _ => exact ⟨c, rfl⟩
    refine ⟨k.toNat, c, by show k = _; omega, by show k.toNat ≤ xs.length; omega, Nat.le_of_ble_eq_true h2, rfl, ?_⟩
    rw [← Option.some.inj h]
    simp [insL]
theorem nbyC : ¬ ByD Fw.Cell := fun h => by
  obtain ⟨n, e⟩ := h (fun _ => True) default [.string ⟨#[]⟩, .string ⟨#[]⟩] ⟨⟨#[]⟩, ⟨#[]⟩⟩ (Cell_mk (x := ⟨⟨#[]⟩, ⟨#[]⟩⟩) (Nat.zero_le _) (Nat.zero_le _))
  cases e
theorem nbyS : ¬ ByD ByteArray := fun h => by
  obtain ⟨n, e⟩ := h (fun _ => True) default [.string ⟨#[]⟩] ⟨#[]⟩ ⟨rfl, Nat.zero_le _⟩
  cases e
theorem xt263 : Ct Z0 Tryz.prog 263 (Z0.xt 263) := by
  intro x y h
  obtain ⟨j, c, h1, h2, h3, h4, h5⟩ := ins_spec (α := Fw.Cell) (x := x) (y := y) h
  refine ⟨fnr Tryz.func263 (by kernel_rfl) (by kernel_rfl), fun K S w θ us hK hS hg hr hE => ?_⟩
  obtain ⟨u0, r0, rfl, q0, u1, r1, rfl, ⟨rfl, hk⟩, u2, r2, rfl, q2, hr3⟩ := (show RepL θ S w [.sl 0, .v (.int .i64 x.2.1), .sl 1] us from hr)
  obtain rfl := hr3
  have hE : EntOk θ S K w [(0, .own 143 (show List (τ0.T 143) from x.1)), (1, .own 143 (show List (τ0.T 143) from x.2.2.1))] := hE
  obtain ⟨o0, -, k0⟩ := hE.ok 0 _ List.mem_cons_self
  obtain ⟨o1, -, k1⟩ := hE.ok 1 _ (List.mem_cons_of_mem _ List.mem_cons_self)
  obtain ⟨F0, s0, n0, b0⟩ := own_slo (α := Fw.Cell) inferInstance rfl nbyC o0
  obtain ⟨F1, s1, n1, b1⟩ := own_slo (α := Fw.Cell) inferInstance rfl nbyC o1
  have q0 : u0 = .slice (θ 0).A (θ 0).len (θ 0).cap := q0
  have q2 : u2 = .slice (θ 1).A (θ 1).len (θ 1).cap := q2
  rw [q0, q2, h1]
  rw [show (x.2.2.1 : List Fw.Cell) = [c] from h4] at s1
  refine (ins_all j h2 h3 s0 n0 s1 fun b hb hb' => ?_).mono fun e w' hq => out_ins (e := 143) (inferInstanceAs (Str Fw.Cell)) rfl rfl rfl rfl (fun b => by rw [h5]; rfl) hK hS (fun b hb => ?_) hq
  · obtain ⟨A, e1, e2⟩ := b0 b hb'
    obtain ⟨A', e1', e2'⟩ := b1 b hb
    have := hE.inj 0 1 _ _ A A' List.mem_cons_self (List.mem_cons_of_mem _ List.mem_cons_self) e1 e1' (e2.trans e2'.symm)
    cases this
  · obtain ⟨A, e1, e2⟩ := b0 b hb
    rw [← e2]
    exact k0 A e1
theorem xt289 : Ct Z0 Tryz.prog 289 (Z0.xt 289) := by
  intro x y h
  obtain ⟨j, c, h1, h2, h3, h4, h5⟩ := ins_spec (α := ByteArray) (x := x) (y := y) h
  refine ⟨fnr Tryz.func289 (by kernel_rfl) (by kernel_rfl), fun K S w θ us hK hS hg hr hE => ?_⟩
  obtain ⟨u0, r0, rfl, q0, u1, r1, rfl, ⟨rfl, hk⟩, u2, r2, rfl, q2, hr3⟩ := (show RepL θ S w [.sl 0, .v (.int .i64 x.2.1), .sl 1] us from hr)
  obtain rfl := hr3
  have hE : EntOk θ S K w [(0, .own 9 (show List (τ0.T 9) from x.1)), (1, .own 9 (show List (τ0.T 9) from x.2.2.1))] := hE
  obtain ⟨o0, -, k0⟩ := hE.ok 0 _ List.mem_cons_self
  obtain ⟨o1, -, k1⟩ := hE.ok 1 _ (List.mem_cons_of_mem _ List.mem_cons_self)
  obtain ⟨F0, s0, n0, b0⟩ := own_slo (α := ByteArray) inferInstance rfl nbyS o0
  obtain ⟨F1, s1, n1, b1⟩ := own_slo (α := ByteArray) inferInstance rfl nbyS o1
  have q0 : u0 = .slice (θ 0).A (θ 0).len (θ 0).cap := q0
  have q2 : u2 = .slice (θ 1).A (θ 1).len (θ 1).cap := q2
  rw [q0, q2, h1]
  rw [show (x.2.2.1 : List ByteArray) = [c] from h4] at s1
  refine (ins_alls j h2 h3 s0 n0 s1 fun b hb hb' => ?_).mono fun e w' hq => out_ins (e := 9) (inferInstanceAs (Str ByteArray)) rfl rfl rfl rfl (fun b => by rw [h5]; rfl) hK hS (fun b hb => ?_) hq
  · obtain ⟨A, e1, e2⟩ := b0 b hb'
    obtain ⟨A', e1', e2'⟩ := b1 b hb
    have := hE.inj 0 1 _ _ A A' List.mem_cons_self (List.mem_cons_of_mem _ List.mem_cons_self) e1 e1' (e2.trans e2'.symm)
    cases this
  · obtain ⟨A, e1, e2⟩ := b0 b hb
    rw [← e2]
    exact k0 A e1
theorem ct_clone {f e : Nat} (hfr : FnRun Tryz.prog f) (hc : CloneC Tryz.prog f (Dat.sz (τ0.T e))) {x : InT τ0 (Z0.sg f)} {y : OutT τ0 (Z0.sg f)} {xs : List (τ0.T e)} (hps : ptrs (Z0.sg f).ps = []) (hrs : ptrs (Z0.sg f).rs = []) (hrl : (Z0.sg f).rs.length = 1)
    (ho : ∀ b, canO Z0.O Z0.ti b (Z0.sg f).outs [] y = ([.sl b], [(b, .own e xs)], b + 1)) (hin : (canO Z0.O Z0.ti (ptrs (Z0.sg f).ps).length (Z0.sg f).ps (List.range (ptrs (Z0.sg f).ps).length) x).1 = [.ro e xs]) (hn : xs.length ≤ 1073741824)
    {K S : Nat → Prop} {w : World} {θ : Nat → Lo} {us : List Value} (hK : ∀ b, K b → b < w.heap.size) (hS : ∀ b, S b → K b)
    (hr : RepL θ S w (canO Z0.O Z0.ti (ptrs (Z0.sg f).ps).length (Z0.sg f).ps (List.range (ptrs (Z0.sg f).ps).length) x).1 us) : Calls Tryz.prog f us.toArray w fun e w' => ∃ v, e = .returned v ∧ OutOk Z0 (Z0.sg f) y S K w w' v (ptrU (Z0.sg f).ps us) := by
  rw [hin] at hr
  obtain ⟨u, r, rfl, hu, hr2⟩ := hr
  obtain rfl := hr2
  have hu : SlR S w u xs := hu
  obtain ⟨raws, h1, h2, h3⟩ := hu.raws (Keep.refl _ _)
  obtain ⟨A, cap, rfl, -⟩ := id hu
  refine (hc w A xs.length cap raws h1 h2 hn).mono fun en w' ⟨l, he, hbel, hq⟩ => ⟨_, he, ?_⟩
  have hk : Keep K w w' := Keep.of_below hbel hK
  rcases hq with ⟨q1, q2, q3, _⟩ | ⟨g, arr, T, q1, _, q3, q4, q5, q6, q7, q8⟩
  · have hx : xs = [] := List.eq_nil_of_length_eq_zero (by rw [← h1, q2]; rfl)
    refine out_row (lo := ⟨none, 0, 0⟩) hps hrs hrl ho hK hS hk (by rw [q1, q3, hx]; rfl) (fun b hb => by cases hb) (.inl ⟨rfl, rfl, rfl, hx⟩)
  · refine out_row (lo := ⟨some ⟨g, 0, none⟩, xs.length, l.cap⟩) hps hrs hrl ho hK hS hk (by rw [q1]) (fun b hb hKb => ?_) (.inr ⟨g, arr, T, rfl, rfl, by rw [← h1]; exact q5, q6, ⟨(0, 0), q4, .inl rfl⟩, q7, fun hg => ?_, fun i x hi => ?_⟩)
    · cases hb
      have := hK g hKb
      have : w.heap.size ≤ g := q3
      omega
    · have := hK _ (hS _ hg); omega
    · have hlt : i < raws.length := by rw [h1]; exact (List.getElem?_eq_some_iff.1 hi).1
      have := h3 i x raws[i] hi (List.getElem?_eq_getElem hlt)
      have e8 := q8 i raws[i] (List.getElem?_eq_getElem hlt)
      unfold Fw.cut at e8
      rw [e8]
      exact Dat.rd_below (hk.mono hS) this
theorem clone_spec {α : Type} {x : List α × Unit} {y : List α × Unit} (h : cloneX x = some y) : x.1.length ≤ 1073741824 ∧ y = (x.1, ()) := by
  unfold cloneX at h
  cases hc : Nat.ble x.1.length 1073741824 with
  | false => rw [hc] at h; cases h
  | true => rw [hc] at h; exact ⟨Nat.le_of_ble_eq_true hc, (Option.some.inj h).symm⟩
theorem xt87 : Ct Z0 Tryz.prog 87 (Z0.xt 87) := by
  intro x y h
  obtain ⟨h1, h2⟩ := clone_spec (α := Fw.Cell) (x := x) (y := y) h
  exact ⟨fnr Tryz.func87 (by kernel_rfl) (by kernel_rfl), fun K S w θ us hK hS hg hr hE => ct_clone (e := 143) (xs := x.1) (fnr Tryz.func87 (by kernel_rfl) (by kernel_rfl)) cl_Cell rfl rfl rfl (fun b => by rw [h2]; rfl) rfl h1 hK hS hr⟩
theorem out_texts {s : Sig} {y : OutT τ0 s} {zs : List ByteArray} (hps : ptrs s.ps = []) (hrs : ptrs s.rs = []) (hrl : s.rs.length = 1) (ho : ∀ b, canO Z0.O Z0.ti b s.outs [] y = ([.sl b], [(b, .own 9 (show List (τ0.T 9) from zs))], b + 1))
    {S K : Nat → Prop} {w w' : World} {v : Value} {us : List Value} {T : TypeId} (hK : ∀ b, K b → b < w.heap.size) (hS : ∀ b, S b → K b) (hw : w' = w.alloc (.cells (zs.map Value.string).toArray T)) (hn : zs.length ≤ maxLen) (hg : ∀ z ∈ zs, z.size ≤ maxLen)
    (hv : v = .slice (some ⟨w.heap.size, 0, none⟩) zs.length zs.length) : OutOk Z0 s y S K w w' v (ptrU s.ps us) := by
  have hk : Keep K w w' := by
    rw [hw]
    exact ⟨rfl, rfl, rfl, by simp, fun b hb => heap_alloc_old w _ (hK b hb)⟩
  refine out_row (Z := Z0) (e := 9) (zs := (show List (τ0.T 9) from zs)) (lo := ⟨some ⟨w.heap.size, 0, none⟩, zs.length, zs.length⟩) hps hrs hrl ho hK hS hk hv (fun b hb hKb => ?_) (.inr ⟨w.heap.size, (zs.map Value.string).toArray, T, rfl, rfl, Nat.le_refl _, hn, ⟨(0, 0), by rw [hw]; exact heap_alloc_new w _, .inl rfl⟩, ?_, fun hg => ?_, fun i x hi => ?_⟩)
  · cases hb
    have := hK w.heap.size hKb
    omega
  · show zs.length * 1 ≤ _
    simp
  · have := hK _ (hS _ hg); omega
  · have hi : zs[i]? = some x := hi
    have hx := hg x (List.mem_of_getElem? hi)
    have e : ((zs.map Value.string).toArray.toList.drop (i * 1)).take 1 = [.string x] := by
      have hlt := (List.getElem?_eq_some_iff.1 hi).1
      have h2 := (List.getElem?_eq_some_iff.1 hi).2
      rw [Nat.mul_one]
      show ((zs.map Value.string).drop i).take 1 = _
      rw [List.drop_eq_getElem_cons (by simpa using hlt), List.take_succ_cons, List.take_zero, List.getElem_map, h2]
    show Dat.rd S w' (((zs.map Value.string).toArray.toList.drop (i * 1)).take 1) (show ByteArray from x)
    rw [e]
    exact ⟨rfl, hx⟩
theorem fg_len : ∀ (l cur z : List UInt8), z ∈ Lib.fieldsGo cur l → z.length ≤ cur.length + l.length
  | [], cur, z, h => by
    unfold Lib.fieldsGo at h
    split at h
    · cases h
    · rw [List.mem_singleton] at h; subst h; simp
  | b :: l, cur, z, h => by
    unfold Lib.fieldsGo at h
    rw [List.length_cons]
    split at h
    · split at h
      · have := fg_len l [] z h; simp only [List.length_nil] at this; omega
      · rcases List.mem_cons.1 h with rfl | h
        · omega
        · have := fg_len l [] z h; simp only [List.length_nil] at this; omega
    · have := fg_len l _ z h
      rw [List.length_append, List.length_cons, List.length_nil] at this
      omega
theorem fg_num : ∀ (l cur : List UInt8), (Lib.fieldsGo cur l).length ≤ 1 + l.length
  | [], cur => by
    unfold Lib.fieldsGo
    split <;> simp
  | b :: l, cur => by
    unfold Lib.fieldsGo
    rw [List.length_cons]
    split
    · split
      · have := fg_num l []; omega
      · have := fg_num l []; rw [List.length_cons]; omega
    · have := fg_num l (cur ++ [b]); omega
theorem sB_size (sep : ByteArray) : ∀ (k : Nat) (s z : ByteArray), z ∈ Lib.splitB sep 0 k s → z.size ≤ s.size
  | 0, s, z, h => by
    rw [Lib.splitB_zero, List.mem_singleton] at h
    rw [h]; exact Nat.le_refl _
  | k + 1, s, z, h => by
    unfold Lib.splitB at h
    split at h
    · rw [List.mem_singleton] at h
      rw [h]; exact Nat.le_refl _
    · rcases List.mem_cons.1 h with rfl | h
      · rw [ByteArray.size_extract]; omega
      · have := sB_size sep k _ z h
        rw [ByteArray.size_extract] at this
        omega
theorem sp_ok {K : Nat → Prop} {w : World} (h : Gok K w) : Lib.TabIs Tryz.prog w "strings.asciiSpace" .u8 Lib.asciiSpaceTab := (h.row (List.mem_cons_of_mem _ List.mem_cons_self)).var (by kernel_rfl)
theorem xt33 : Ct Z0 Tryz.prog 33 (Z0.xt 33) := by
  intro x y h
  have h : (bif Nat.ble x.1.size 4294967280 && x.1.data.toList.all (fun b => decide (b.toNat < 128)) then some (fieldsS x.1, ()) else none) = some y := h
  cases hb : Nat.ble x.1.size 4294967280 && x.1.data.toList.all (fun b => decide (b.toNat < 128)) with
  | false => rw [hb] at h; cases h
  | true =>
    rw [hb] at h
    obtain rfl : y = (fieldsS x.1, ()) := (Option.some.inj h).symm
    rw [Bool.and_eq_true] at hb
    have h1 := Nat.le_of_ble_eq_true hb.1
    have h2 := List.all_eq_true.1 hb.2
    refine ⟨fnr Tryz.func33 (by kernel_rfl) (by kernel_rfl), fun K S w θ us hK hS hg hr hE => ?_⟩
    obtain ⟨u, r, rfl, ⟨rfl, hv⟩, hr2⟩ := (show RepL θ S w [.v (.string x.1)] us from hr)
    obtain rfl := hr2
    refine (Tryz.strings_Fields x.1 w (by omega) (fun j b hj => of_decide_eq_true (h2 b (List.mem_of_getElem? hj))) (sp_ok hg)).mono fun e w' ⟨he, hw⟩ => ?_
    have el : (fieldsS x.1).length = (Lib.fields x.1.data.toList).length := by unfold fieldsS; rw [List.length_map]
    have hsz : x.1.data.toList.length = x.1.size := by rw [Array.length_toList]; rfl
    refine ⟨_, he, out_texts (zs := fieldsS x.1) (T := 9) rfl rfl rfl (fun b => rfl) hK hS (by rw [hw]; unfold fieldsS; rw [List.map_map]; rfl) ?_ (fun z hz => ?_) (by rw [el])⟩
    · have := fg_num x.1.data.toList []
      rw [el]
      unfold Lib.fields maxLen
      omega
    · unfold fieldsS at hz
      obtain ⟨l, hl, rfl⟩ := List.mem_map.1 hz
      have := fg_len _ _ l hl
      show l.toArray.size ≤ maxLen
      rw [List.size_toArray]
      simp only [List.length_nil] at this
      unfold maxLen
      omega
theorem xt18 : Ct Z0 Tryz.prog 18 (Z0.xt 18) := by
  intro x y h
  have h : (bif Nat.ble x.1.size 4294967280 && Nat.beq x.2.1.size 1 then some (splitS x.1 x.2.1, ()) else none) = some y := h
  cases hb : Nat.ble x.1.size 4294967280 && Nat.beq x.2.1.size 1 with
  | false => rw [hb] at h; cases h
  | true =>
    rw [hb] at h
    obtain rfl : y = (splitS x.1 x.2.1, ()) := (Option.some.inj h).symm
    rw [Bool.and_eq_true] at hb
    have h1 := Nat.le_of_ble_eq_true hb.1
    have h3 := Nat.eq_of_beq_eq_true hb.2
    have h2 : 1 ≤ (show ByteArray from x.2.1).size := by rw [h3]; exact Nat.le_refl _
    obtain ⟨c, hc1⟩ := Lib.one_byte x.2.1 h3
    refine ⟨fnr Tryz.func18 (by kernel_rfl) (by kernel_rfl), fun K S w θ us hK hS hg hr hE => ?_⟩
    obtain ⟨u, r, rfl, ⟨rfl, hv⟩, u', r', rfl, ⟨rfl, hv'⟩, hr2⟩ := (show RepL θ S w [.v (.string x.1), .v (.string x.2.1)] us from hr)
    obtain rfl := hr2
    have hcall := Go.Proofs.split_one Tryz.lays146 (by kernel_rfl) x.1 c w (by omega)
    rw [← hc1] at hcall
    refine hcall.mono fun e w' ⟨he, hw⟩ => ?_
    have el : (splitS x.1 x.2.1).length = Lib.countB x.1 x.2.1 + 1 := Lib.splitB_all x.2.1 h2 0 _ x.1 rfl
    have hc := Lib.countB_le x.2.1 h2 x.1.size x.1 (Nat.le_refl _)
    refine ⟨_, he, out_texts (zs := splitS x.1 x.2.1) (T := 9) rfl rfl rfl (fun b => rfl) hK hS hw (by rw [el]; unfold maxLen; omega) (fun z hz => ?_) (by rw [el])⟩
    have := sB_size x.2.1 _ x.1 z hz
    unfold maxLen
    omega
end Go.Proofs.YtifffdepmdnciaaGreatDoor.Ri

namespace Go.Proofs.YtifffdepmdnciaaGreatDoor.Ri
open Go.Proofs.YtifffdepmdnciaaGreatDoor.Fw
open Go.RowKit Go.Shelf
set_option linter.unusedVariables false
set_option maxRecDepth 100000
theorem ct_flat {f : Nat} {D : InT τ0 (Z0.sg f) → Option (OutT τ0 (Z0.sg f))} (hrun : FnRun Tryz.prog (Z0.bs f)) (hps : ptrs (Z0.sg f).ps = []) (hrs : ptrs (Z0.sg f).rs = []) (hrl : (Z0.sg f).rs.length = 1)
    (H : ∀ x y, D x = some y → ∃ v : Value, VGood v ∧ (∀ b, canO Z0.O Z0.ti b (Z0.sg f).outs [] y = ([.v v], [], b)) ∧ ∀ (K S : Nat → Prop) (w : World) (θ : Nat → Lo) (us : List Value), Gok K w → (∀ b, K b → b < w.heap.size) → (∀ b, S b → K b) →
      RepL θ S w (canO Z0.O Z0.ti (ptrs (Z0.sg f).ps).length (Z0.sg f).ps (List.range (ptrs (Z0.sg f).ps).length) x).1 us → Calls Tryz.prog (Z0.bs f) us.toArray w (fun e w' => e = .returned v ∧ Below w.heap.size w w')) : Ct Z0 Tryz.prog f D := by
  intro x y h
  obtain ⟨v, hv, ho, hc⟩ := H x y h
  refine ⟨hrun, fun K S w θ us hK hS hg hr hE => ?_⟩
  refine (hc K S w θ us hg hK hS hr).mono fun e w' ⟨he, hb⟩ => ⟨v, he, Keep.of_below hb hK, hrs, S, fun b h => .inl h, fun b h => Nat.lt_of_lt_of_le (hK b (hS b h)) hb.size, [v], rfl, hrl.symm, fun b qs θq hl _ _ hp => ⟨θq, fun _ _ => rfl, ?_, ?_⟩⟩
  · obtain rfl : qs = [] := List.eq_nil_of_length_eq_zero (by rw [hl, hps]; rfl)
    have hp : ptrU (Z0.sg f).ps us = [] := hp
    rw [ho, hp]
    exact ⟨v, [], rfl, ⟨rfl, hv⟩, rfl⟩
  · obtain rfl : qs = [] := List.eq_nil_of_length_eq_zero (by rw [hl, hps]; rfl)
    rw [ho]
    exact ⟨fun r e h => (by cases h), fun r r' e e' b b' h => (by cases h)⟩
open Go.Sort in
theorem below_grow (w : World) (k : Nat) (os : Array Obj) : Below w.heap.size w (grow (w.drewN k) os) := by
  refine ⟨rfl, rfl, rfl, by simp [grow, World.drewN], fun b hb => ?_⟩
  show (w.heap ++ os)[b]? = w.heap[b]?
  rw [Array.getElem?_append_left hb]
theorem pow_ok {K : Nat → Prop} {w : World} (h : Gok K w) : Lib.TabIs Tryz.prog w "internal/strconv.uint64pow10" .u64 Lib.pow10Tab := by
  have h1 := h.row (List.mem_cons_self)
  rw [show Lib.pow10Tab = pow10L by decide]
  exact h1.var (by kernel_rfl)
theorem itoa_call (n : Int) {K : Nat → Prop} {w : World} (hv : VGood (.int .i64 n)) (hg : Gok K w) : Calls Tryz.prog 13 [.int .i64 n].toArray w (fun e w' => e = .returned (.string (itoaS n)) ∧ Below w.heap.size w w') := by
  have hv : IntKind.wrap .i64 n = n := hv
  have h2 : IntKind.wrap .i64 n = n := hv
  rw [IntKind.wrap_i64] at h2
  refine (Tryz.strconv_Itoa n (by omega) (by omega) w (pow_ok hg)).mono fun e w2 h => ?_
  obtain ⟨h1, k, os, rfl⟩ := h
  unfold itoaS
  rw [hv]
  exact ⟨h1, below_grow w k os⟩
theorem xt13 : Ct Z0 Tryz.prog 13 (Z0.xt 13) := by
  refine ct_flat (fnr Tryz.func13 (by kernel_rfl) (by kernel_rfl)) rfl rfl rfl fun x y h => ?_
  obtain rfl : y = (itoaS x.1, ()) := (Option.some.inj h).symm
  refine ⟨.string (itoaS x.1), Nat.le_trans (itoaS_size _) (by decide), fun b => rfl, fun K S w θ us hg hK hS hr => ?_⟩
  obtain ⟨u, r, rfl, ⟨rfl, hv⟩, hr2⟩ := (show RepL θ S w [.v (.int .i64 x.1)] us from hr)
  obtain rfl := hr2
  exact itoa_call x.1 hv hg
def growRen : Go.Shelf.Ren := ⟨fun | 4 => 65 | n => n, fun | 22 => 27 | 25 => 9 | n => n, fun n => n⟩
theorem growLays : Go.Proofs.Lays8.n4 Tryz.prog growRen := {
  mixed := by kernel_rfl
  f4 := ⟨_, by kernel_rfl, Tryz.func65.trans (congrArg some (by kernel_rfl : _ = { Go.Proofs.Body8.n4 growRen with name := (Tryz.f65).name }))⟩
  t0 := Tryz.underlying0
  a0 := Tryz.isAgg0
  z0 := Tryz.sizeOf0
  v0 := Tryz.zeroValue0
  t3 := Tryz.underlying3
  a3 := Tryz.isAgg3
  z3 := Tryz.sizeOf3
  v3 := Tryz.zeroValue3
  t4 := Tryz.underlying4
  a4 := Tryz.isAgg4
  z4 := Tryz.sizeOf4
  v4 := Tryz.zeroValue4
  t9 := Tryz.underlying9
  a9 := Tryz.isAgg9
  z9 := Tryz.sizeOf9
  v9 := Tryz.zeroValue9
  t20 := Tryz.underlying20
  a20 := Tryz.isAgg20
  z20 := Tryz.sizeOf20
  v20 := Tryz.zeroValue20
  t22 := Tryz.underlying27
  a22 := Tryz.isAgg27
  z22 := Tryz.sizeOf27
  v22 := Tryz.zeroValue27 }
theorem grow_spec {x : List ByteArray × Int × Unit} {y : List ByteArray × Unit} (h : growX x = some y) : ∃ m : Nat, x.2.1 = (m : Int) ∧ m ≤ 4398046511104 ∧ y = ([], ()) := by
  obtain ⟨l, n, u⟩ := x
  unfold growX at h
  cases hb : decide (0 ≤ n) && decide (n ≤ 4398046511104) with
  | false => simp only [hb, cond_false] at h; cases h
  | true =>
    simp only [hb, cond_true] at h
    simp only [Bool.and_eq_true, decide_eq_true_eq] at hb
    exact ⟨n.toNat, by show n = _; omega, by omega, (Option.some.inj h).symm⟩
theorem xt65 : Ct Z0 Tryz.prog 65 (Z0.xt 65) := by
  intro x y h
  obtain ⟨m, hm, h1, hy⟩ := grow_spec (x := x) (y := y) h
  obtain rfl : y = (([] : List ByteArray), ()) := hy
  refine ⟨fnr Tryz.func65 (by kernel_rfl) (by kernel_rfl), fun K S w θ us hK hS hg hr hE => ?_⟩
  obtain ⟨u, r, rfl, ⟨rfl, _⟩, u', r', rfl, ⟨rfl, hv⟩, hr2⟩ := (show RepL θ S w [.v (.slice none 0 0), .v (.int .i64 x.2.1)] us from hr)
  obtain rfl := hr2
  rw [hm]
  by_cases hm0 : m = 0
  · subst hm0
    refine (Any8.slices_Grow_room growLays none 0 0 0 w (Nat.le_refl _) (by omega) (by omega) (by omega)).mono fun e w2 hr => ?_
    obtain ⟨rfl, rfl⟩ := hr
    exact ⟨_, rfl, out_row (Z := Z0) (e := 9) (zs := []) (lo := ⟨none, 0, 0⟩) rfl rfl rfl (fun b => rfl) hK hS (Keep.refl _ _) rfl (fun b hb => by cases hb) (.inl ⟨rfl, rfl, rfl, rfl⟩)⟩
  · have hi : Tryz.prog.info? 9 = some Tryz.t9 := by kernel_rfl
    refine (Any8.slices_Grow_grow growLays Tryz.t9 (.string ⟨#[]⟩) hi (by kernel_rfl) (by decide +kernel) none 0 0 m [] w (Nat.le_refl _) (by omega) (by rw [show Tryz.t9.bytes = 16 by kernel_rfl]; omega) (by omega) (by simp) (fun _ => rfl) (fun a h => by cases h)).mono fun e w2 hr => ?_
    obtain ⟨rfl, rfl⟩ := hr
    have hge := grownCap_ge w (0 + m) 0 (growRen.t 25)
    have hcm := grownCap_le_maxLen w (0 + m) 0 (growRen.t 25) (by unfold maxLen; omega)
    refine ⟨_, rfl, out_row (Z := Z0) (e := 9) (zs := []) (lo := ⟨some ⟨w.heap.size, 0, none⟩, 0, grownCap w (0 + m) 0 (growRen.t 25)⟩) rfl rfl rfl (fun b => rfl) hK hS ⟨rfl, rfl, rfl, by simp, fun b hb => heap_alloc_old w.drew _ (hK b hb)⟩ rfl (fun b hb hKb => ?_) (.inr ⟨w.heap.size, _, _, rfl, rfl, Nat.zero_le _, hcm, ⟨(0, 0), heap_alloc_new w.drew _, .inl rfl⟩, ?_, fun hS' => ?_, fun i x hi => by cases hi⟩)⟩
    · cases hb
      have := hK w.heap.size hKb
      omega
    · have hz : (Value.string ⟨#[]⟩).cells.size = 1 := rfl
      show grownCap w (0 + m) 0 (growRen.t 25) * 1 ≤ _
      simp only [Array.size_append, List.size_toArray, size_zeroCells, hz, List.length_nil]
      omega
    · have := hK _ (hS _ hS'); omega
end Go.Proofs.YtifffdepmdnciaaGreatDoor.Ri

namespace Go.Proofs.YtifffdepmdnciaaGreatDoor.Ri
open Go.Proofs.YtifffdepmdnciaaGreatDoor.Fw
open Go.RowKit Go.Shelf
set_option linter.unusedVariables false
set_option maxRecDepth 100000
theorem es_ok {K : Nat → Prop} {w : World} (h : Gok K w) : ∃ ev, w.cell? ⟨8, 0, none⟩ = some ev ∧ (ev = .nilIface ∨ ∃ te pe, ev = .iface te pe) := by
  obtain ⟨_, o, h2, ev, T, fr, rfl, h3⟩ := h _ (List.mem_cons_of_mem _ (List.mem_cons_of_mem _ List.mem_cons_self))
  refine ⟨ev, ?_, h3⟩
  unfold World.cell?
  rw [h2]
  rfl
theorem rd_call {w : World} (he : ∃ ev, w.cell? ⟨8, 0, none⟩ = some ev ∧ (ev = .nilIface ∨ ∃ te pe, ev = .iface te pe)) : Calls Tryz.prog 37 #[.string ⟨#[]⟩] w fun e w' => e = .returned (.tuple #[.int .i64 0, .bool false]) ∧ Below w.heap.size w w' := by
  obtain ⟨ev, h1, h2⟩ := he
  have hA := Tryz.strconv_Atoi_syntax ⟨#[]⟩ (by decide) (by decide +kernel) ev w h1 h2
  have mixed : Tryz.prog.follows .mixedOrders = true := by kernel_rfl
  have e73 : ∀ args w, (callFunc 73 args).run Tryz.prog w = .ok (.enter 73 args) w := enters_of Tryz.func73 (by kernel_rfl) rfl
  go_enter Tryz.func37, Tryz.ntmps37
  go_wp2_with (go_at_fn 73; refine hA.mono ?_; rintro e w' ⟨N, rfl, hN, hB, hbel⟩)
  all_goals go_ret2
  all_goals exact ⟨rfl, hbel⟩
end Go.Proofs.YtifffdepmdnciaaGreatDoor.Ri

namespace Go.Proofs.YtifffdepmdnciaaGreatDoor.Ri
open Go.Proofs.YtifffdepmdnciaaGreatDoor.Fw
open Go.RowKit
set_option linter.unusedVariables false
set_option maxRecDepth 100000
theorem read_spec {x : ByteArray × Unit} {y : Int × Bool × Unit} (h : readX x = some y) : x.1 = ⟨#[]⟩ ∧ y = (0, false, ()) := by
  obtain ⟨s, u⟩ := x
  unfold readX at h
  cases hb : Nat.beq s.size 0 with
  | false => simp only [hb, cond_false] at h; cases h
  | true =>
    simp only [hb, cond_true] at h
    refine ⟨?_, (Option.some.inj h).symm⟩
    have := Nat.eq_of_beq_eq_true hb
    apply ByteArray.ext
    exact Array.eq_empty_of_size_eq_zero this
theorem xt37 : Ct Z0 Tryz.prog 37 (Z0.xt 37) := by
  intro x y h
  obtain ⟨h1, h2⟩ := read_spec (x := x) (y := y) h
  obtain rfl : y = ((0 : Int), (false, ())) := h2
  refine ⟨fnr Tryz.func37 (by kernel_rfl) (by kernel_rfl), fun K S w θ us hK hS hg hr hE => ?_⟩
  obtain ⟨u, r, rfl, ⟨rfl, hv⟩, hr2⟩ := (show RepL θ S w [.v (.string x.1)] us from hr)
  obtain rfl := hr2
  rw [show (x.1 : ByteArray) = ⟨#[]⟩ from h1]
  refine (rd_call (es_ok hg)).mono fun e w' ⟨he, hb⟩ => ⟨_, he, Keep.of_below hb hK, rfl, S, fun b h => .inl h, fun b h => Nat.lt_of_lt_of_le (hK b (hS b h)) hb.size, [.int .i64 0, .bool false], rfl, rfl, fun b qs θq hl _ _ hp => ?_⟩
  obtain rfl : qs = [] := List.eq_nil_of_length_eq_zero (by rw [hl]; rfl)
  exact ⟨θq, fun _ _ => rfl, ⟨_, _, rfl, ⟨rfl, rfl⟩, _, _, rfl, ⟨rfl, trivial⟩, rfl⟩, ⟨fun r e h => (by cases h), fun r r' e e' b b' h => (by cases h)⟩⟩
theorem hXt : ∀ f, Z0.isx f = true → Ct Z0 Tryz.prog f (Z0.xt f) := by
  intro f h
  have h : isx0 f = true := h
  unfold isx0 at h
  simp only [Bool.or_eq_true, or_assoc] at h
  rcases h with h | h | h | h | h | h | h | h <;> obtain rfl := Nat.eq_of_beq_eq_true h
  all_goals first | exact xt13 | exact xt18 | exact xt33 | exact xt37 | exact xt65 | exact xt87 | exact xt263 | exact xt289
theorem S0 : Sy Tryz.prog Z0.ti Z0.zr := ⟨tiok, zok, ftok, arok, sqok⟩
theorem hm0 : Tryz.prog.follows .mixedOrders = true := by kernel_rfl
theorem Dn_ok (f : Nat) : Ct Z0 Tryz.prog f (Dn f) := Den_ok S0 O0_fit (fxOf_ok Z0 Tryz.prog) (calls_ok O0_fit) (draws_ok hm0 S0) hXt f
theorem close_law {f : Nat} {x : InT τ0 (Z0.sg f)} {y : OutT τ0 (Z0.sg f)} {vi : List (Vx τ0)} {nx : Nat} {r : Value} {us : List Value} {w : World} (hg : Gok (Old w) w) (h : Dn f x = some y) (hps : ptrs (Z0.sg f).ps = [])
    (hI : canO Z0.O Z0.ti (ptrs (Z0.sg f).ps).length (Z0.sg f).ps (List.range (ptrs (Z0.sg f).ps).length) x = (vi, [], nx)) (hpu : ptrU (Z0.sg f).ps us = [])
    (hO : (canO Z0.O Z0.ti 0 (Z0.sg f).outs [] y).1 = [.v r]) (hr : ∀ θ, RepL θ (Old w) w vi us) :
    Calls Tryz.prog (Z0.bs f) us.toArray w fun e w' => e = .returned r ∧ Below w.heap.size w w' := by
  obtain ⟨_, hc⟩ := Dn_ok f x y h
  have hc := hc (Old w) (Old w) w (fun _ => ⟨none, 0, 0⟩) us (fun _ h => h) (fun _ h => h) hg (by rw [hI]; exact hr _) (by rw [hI]; exact ⟨fun r e h => (by cases h), fun r r' e e' b b' h => (by cases h)⟩)
  refine hc.mono fun e w' ⟨v, hv, hk, _, S', _, _, us', hvp, hl, hall⟩ => ?_
  obtain ⟨θ', _, h1, _⟩ := hall 0 [] (fun _ => ⟨none, 0, 0⟩) (by rw [hps]; rfl) List.nodup_nil (fun q hq => by cases hq) (by rw [hpu]; rfl)
  rw [hO, hpu, List.append_nil] at h1
  obtain ⟨u, r', e1, ⟨e2, _⟩, e3⟩ := h1
  obtain rfl := e3
  refine ⟨?_, hk.below⟩
  rw [hv, hvp, e1, e2]
  rfl
theorem oc3 (p0 : List UInt8) {v0 : Value} {w : World} (hp0 : SlR (Old w) w v0 p0) (hG : Gok (Old w) w) : Calls Tryz.prog 3 [v0].toArray w (fun e w' => e = .returned (.bool true) ∧ Below w.heap.size w w') :=
  close_law (f := 3) (y := (true, ())) (vi := [.ro 5 p0]) (nx := 0) (r := .bool true) hG (c3 p0) rfl (by kernel_rfl) rfl (by kernel_rfl) (fun θ => ⟨_, _, rfl, hp0, rfl⟩)
end Go.Proofs.YtifffdepmdnciaaGreatDoor.Ri

namespace Go.Proofs.YtifffdepmdnciaaGreatDoor.Fw
open Go.RowKit
set_option linter.unusedVariables false
set_option linter.unusedSimpArgs false
def gl0 : List ByteArray := [(⟨#[98, 101, 103, 105, 110]⟩ : ByteArray), (⟨#[97, 115, 107]⟩ : ByteArray), (⟨#[109, 97, 114, 107]⟩ : ByteArray), (⟨#[98, 97, 99, 107]⟩ : ByteArray), (⟨#[100, 114, 111, 112]⟩ : ByteArray), (⟨#[99, 111, 109, 109, 105, 116]⟩ : ByteArray), (⟨#[112, 108, 97, 105, 110]⟩ : ByteArray), (⟨#[102, 108, 117, 115, 104]⟩ : ByteArray), (⟨#[102, 111, 108, 100]⟩ : ByteArray), (⟨#[102, 111, 108, 100, 101, 100]⟩ : ByteArray), (⟨#[102, 97, 108, 108]⟩ : ByteArray), (⟨#[114, 101, 116, 114, 121]⟩ : ByteArray)]
def gl1 : List Int := [0, 0, 0, 0, 0, 0, 0, 0, 0, 1, 1, 1, 1, 1, 0, 0, 0, 0, 0, 0, 0, 0, 0, 0, 0, 0, 0, 0, 0, 0, 0, 0, 1, 0, 0, 0, 0, 0, 0, 0, 0, 0, 0, 0, 0, 0, 0, 0, 0, 0, 0, 0, 0, 0, 0, 0, 0, 0, 0, 0, 0, 0, 0, 0, 0, 0, 0, 0, 0, 0, 0, 0, 0, 0, 0, 0, 0, 0, 0, 0, 0, 0, 0, 0, 0, 0, 0, 0, 0, 0, 0, 0, 0, 0, 0, 0, 0, 0, 0, 0, 0, 0, 0, 0, 0, 0, 0, 0, 0, 0, 0, 0, 0, 0, 0, 0, 0, 0, 0, 0, 0, 0, 0, 0, 0, 0, 0, 0, 0, 0, 0, 0, 0, 0, 0, 0, 0, 0, 0, 0, 0, 0, 0, 0, 0, 0, 0, 0, 0, 0, 0, 0, 0, 0, 0, 0, 0, 0, 0, 0, 0, 0, 0, 0, 0, 0, 0, 0, 0, 0, 0, 0, 0, 0, 0, 0, 0, 0, 0, 0, 0, 0, 0, 0, 0, 0, 0, 0, 0, 0, 0, 0, 0, 0, 0, 0, 0, 0, 0, 0, 0, 0, 0, 0, 0, 0, 0, 0, 0, 0, 0, 0, 0, 0, 0, 0, 0, 0, 0, 0, 0, 0, 0, 0, 0, 0, 0, 0, 0, 0, 0, 0, 0, 0, 0, 0, 0, 0, 0, 0, 0, 0, 0, 0, 0, 0, 0, 0, 0, 0, 0, 0, 0, 0, 0, 0]
def gl2 : List ByteArray := [(⟨#[109, 97, 107, 101]⟩ : ByteArray), (⟨#[108, 105, 110, 107]⟩ : ByteArray), (⟨#[117, 110, 108, 105, 110, 107]⟩ : ByteArray), (⟨#[114, 101, 110, 97, 109, 101]⟩ : ByteArray), (⟨#[110, 97, 109, 101, 115]⟩ : ByteArray), (⟨#[114, 101, 97, 100]⟩ : ByteArray), (⟨#[119, 114, 105, 116, 101]⟩ : ByteArray), (⟨#[99, 117, 116]⟩ : ByteArray), (⟨#[112, 105, 112, 101]⟩ : ByteArray), (⟨#[112, 117, 116]⟩ : ByteArray), (⟨#[116, 97, 107, 101]⟩ : ByteArray), (⟨#[115, 112, 97, 119, 110]⟩ : ByteArray), (⟨#[101, 110, 100]⟩ : ByteArray), (⟨#[114, 101, 97, 112]⟩ : ByteArray), (⟨#[107, 105, 100, 115]⟩ : ByteArray), (⟨#[115, 101, 110, 100]⟩ : ByteArray), (⟨#[115, 105, 103, 110, 97, 108]⟩ : ByteArray), (⟨#[116, 105, 109, 101, 114]⟩ : ByteArray), (⟨#[116, 105, 99, 107]⟩ : ByteArray), (⟨#[115, 116, 111, 114, 101]⟩ : ByteArray), (⟨#[108, 111, 97, 100]⟩ : ByteArray), (⟨#[111, 117, 116]⟩ : ByteArray)]
def gl4 : List Int := [1, 10, 100, 1000, 10000, 100000, 1000000, 10000000, 100000000, 1000000000, 10000000000, 100000000000, 1000000000000, 10000000000000, 100000000000000, 1000000000000000, 10000000000000000, 100000000000000000, 1000000000000000000, 10000000000000000000]
def gl10 : List Int := [0, 1, 28, 2, 29, 14, 24, 3, 30, 22, 20, 15, 25, 17, 4, 8, 31, 27, 13, 23, 21, 19, 16, 7, 26, 12, 18, 6, 11, 5, 10, 9]
def gl11 : List Int := [0, 1, 56, 2, 57, 49, 28, 3, 61, 58, 42, 50, 38, 29, 17, 4, 62, 47, 59, 36, 45, 43, 51, 22, 53, 39, 33, 30, 24, 18, 12, 5, 63, 55, 48, 27, 60, 41, 37, 16, 46, 35, 44, 21, 52, 32, 23, 11, 54, 26, 40, 15, 34, 20, 31, 10, 25, 14, 19, 9, 13, 8, 7, 6]
end Go.Proofs.YtifffdepmdnciaaGreatDoor.Fw

namespace Go.Proofs.YtifffdepmdnciaaGreatDoor.Fw
open Go.RowKit
set_option linter.unusedVariables false
def GX (g : Nat) (w : World) : Prop := ∃ te pe, GV g [.iface te pe] w
theorem GX_iface {P : Program} {W : World} {H : Type} {enc : TypeId × Value → H} {sp : Nat → Bool} {b : Bool} {fuel t g : Nat} {x : List MemPlace} {cs : Array Value} {nm nm2 : String} {d : DataW H} {ms : Array (String × TypeId)}
    (hg : P.globalNamed nm = some g) (hu : P.underlying t = some (.interface ms)) (hv : W.var? P nm = some cs) (hd : DataW.trod enc P W 0 sp b fuel t cs.toList = some (.iface nm2 d, x)) : GX g W := by
  have key : ∃ u v, cs.toList = [.iface u v] := by
    cases fuel with
    | zero => simp [DataW.trod] at hd
    | succ n =>
      generalize cs.toList = l at hd ⊢
      rcases l with _ | ⟨c, _ | ⟨c2, r⟩⟩
      · simp [DataW.trod, hu] at hd
      · cases c <;> first | exact ⟨_, _, rfl⟩ | simp [DataW.trod, hu] at hd
      · simp [DataW.trod, hu] at hd
  obtain ⟨u, v, e⟩ := key
  exact ⟨u, v, var_gv hg hv e⟩
end Go.Proofs.YtifffdepmdnciaaGreatDoor.Fw
namespace Go.Proofs.YtifffdepmdnciaaGreatDoor.Ri
open Go.Proofs.YtifffdepmdnciaaGreatDoor.Fw
theorem gl1_eq : gl1.map (Value.int .u8) = Lib.asciiSpaceTab.map (Value.int .u8) := by kernel_rfl
theorem gl4_eq : gl4.map (Value.int .u64) = pow10L.map (Value.int .u64) := by kernel_rfl
theorem gok_of {w : World} (h1 : GV 1 (gl1.map (Value.int .u8)) w) (h4 : GV 4 (gl4.map (Value.int .u64)) w) (h8 : GX 8 w) : Gok (Old w) w := by
  rw [gl1_eq] at h1
  rw [gl4_eq] at h4
  intro x hx
  simp only [gokL, List.mem_cons, List.not_mem_nil, or_false] at hx
  rcases hx with rfl | rfl | rfl
  · exact ⟨h4.lt, gok_row h4⟩
  · exact ⟨h1.lt, gok_row h1⟩
  · obtain ⟨te, pe, h⟩ := h8
    refine ⟨h.lt, ?_⟩
    obtain ⟨T, fr, h⟩ := h
    exact ⟨_, h, _, T, fr, rfl, .inr ⟨te, pe, rfl⟩⟩
end Go.Proofs.YtifffdepmdnciaaGreatDoor.Ri
