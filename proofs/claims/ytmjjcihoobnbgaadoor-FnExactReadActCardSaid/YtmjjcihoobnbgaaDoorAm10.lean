/-
  The abstract machine: rows that are made, and stored into. No condition: every lemma is general in the program.
-/
import Derived.Test.YtmjjcihoobnbgaaDoorAm8
namespace Go.Proofs.YtmjjcihoobnbgaaDoor.Fw
open Go.RowKit
set_option linter.unusedVariables false

theorem namesL_v : ∀ (l : List Value), V.names.namesL (l.map V.v) = []
  | [] => rfl
  | x :: r => by rw [List.map_cons, namesL_cons, namesL_v r]; rfl

/-- What a made row holds. -/
theorem made_cut {zs : Array Value} {sz m i : Nat} (hz : zs.size = sz) (hp : 0 < sz) (hi : i < m) : cut sz ((Array.range (m * sz)).map (fun j => zs[j % zs.size]!)).toList i = zs.toList := by
  have hle : i * sz + sz ≤ m * sz := by
    have : (i + 1) * sz ≤ m * sz := Nat.mul_le_mul_right _ hi
    rwa [Nat.add_mul, Nat.one_mul] at this
  unfold cut
  refine List.ext_getElem? fun j => ?_
  by_cases hj : j < sz
  · rw [List.getElem?_take_of_lt hj, List.getElem?_drop]
    have h1 : i * sz + j < m * sz := by omega
    rw [Array.getElem?_toList, Array.getElem?_map]
    rw [Array.getElem?_eq_getElem (by simpa using h1)]
    simp only [Array.getElem_range, Option.map_some, hz]
    rw [Nat.mul_comm, Nat.mul_add_mod, Nat.mod_eq_of_lt hj, Array.getElem?_toList, getElem!_pos zs j (by omega), Array.getElem?_eq_getElem (by omega)]
  · rw [List.getElem?_eq_none (by simp; omega), List.getElem?_eq_none (by simp; omega)]

section
variable {c : Cx} {σ : St} {all : Array Oper} {ty : TypeId} {pos : String} {after : Array Edge} {d : Nat}
theorem OpS.make {α : Type} {dα : Dat α} [s : @Str α dα] {t e by' : Nat} {x y : Operand} {z : Value} (m : Nat) (z0 : α) {i j : Int} (hx : ev σ.ρ x = some (.v (.int .i64 i))) (hy : ev σ.ρ y = some (.v (.int .i64 j))) (hi : i = m) (hj : j = m)
    (ht : c.ti t = .sl e (Dat.sz α) by') (hz : c.zr e = some z) (hzs : z.cells.size = Dat.sz α) (ho : ElOk σ.E (Dat.sz α) dα s.fk [z0] (z.cells.toList.map V.v)) (hb : by' * m ≤ 281474976710656) (hm : m ≤ 9223372036854775807) (hd : Nat.blt d σ.n = true) :
    OpS c σ all ⟨some d, .makeSlice t x y, ty, pos, after, none⟩ (afterApp0 σ d dα (List.replicate m z0)) :=
  OpS.of fun θ a w h K Q hK => by
    subst hi
    subst hj
    obtain ⟨S, w1, hh⟩ := h.heap
    have hti := c.tiok t
    rw [ht] at hti
    simp only [TI.chk, Bool.and_eq_true] at hti
    obtain ⟨hu, inf, hi, his, hib⟩ := chkSlice_spec hti.2
    have hex := Option.some.inj (h.env.con hx)
    have hey := Option.some.inj (h.env.con hy)
    obtain ⟨_, hown⟩ := hh.elems s (conL_v z.cells.toList) (namesL_v _) ho
    have hown0 : ∀ w', Dat.own w' z.cells.toList z0 [] := fun w' => by
      have := hown w' 0 z0 rfl
      unfold cut at this
      rwa [Nat.zero_mul, List.drop_zero, List.take_of_length_le (by rw [Array.length_toList, hzs]; exact Nat.le_refl _)] at this
    have hw : IntKind.i64.wrap (m : Int) = m := IntWalk.i64_in _ (by omega)
    have hlim : ¬ (281474976710656 < (by' : Int) * (m : Int)) := by
      have : ((by' * m : Nat) : Int) ≤ 281474976710656 := by omega
      rw [Int.natCast_mul] at this
      omega
    have : ∃ arr : Array Value, arr.size = m * Dat.sz α ∧ (∀ i, i < m → cut (Dat.sz α) arr.toList i = z.cells.toList) ∧ (execOp a.eval ⟨some d, .makeSlice t x y, ty, pos, after, none⟩).run c.P w = .ok (.value (.slice (some ⟨w.heap.size, 0, none⟩) m m)) (w.alloc (.cells arr e)) := by
      by_cases h0 : m = 0
      · subst h0
        refine ⟨#[], by simp, fun i hi => by omega, ?_⟩
        have hr : Array.range 0 = #[] := rfl
        simp [execOp, ← hex, ← hey, Instr.makeSlice, run_underlying hu, asInt, asIntOf, typeInfo, hi, sizeOf, newRow, hr, show IntKind.i64.wrap 0 = 0 from rfl]
      · refine ⟨(Array.range (m * Dat.sz α)).map (z.cells[· % z.cells.size]!), by simp, fun i hi => made_cut hzs (Dat.sz_pos α) hi, ?_⟩
        have hne : ¬ (m * Dat.sz α = 0) := by have := Dat.sz_pos α; rw [Nat.mul_eq_zero]; omega
        have hz' := c.zok e z hz w
        have hm0 : ¬ ((m : Int) < 0) := by omega
        have hszn : ¬ (Dat.sz α = 0) := by have := Dat.sz_pos α; omega
        have hlim' : ¬ (((by' : Int) * (m : Int)) > 2 ^ 48) := by omega
        simp [execOp, ← hex, ← hey, Instr.makeSlice, run_underlying hu, asInt, asIntOf, typeInfo, hi, sizeOf, newRow, hib, his, hw, hlim, hz', hm0]
        exact fun h => absurd h hne
    obtain ⟨arr, hsz, hcut, hrun⟩ := this
    unfold Oper.wp
    rw [hrun]
    have h3 : ∀ w2, w2.heap[w.heap.size]? = some (.cells arr e (0, 0)) → SlO w2 (.slice (some ⟨w.heap.size, 0, none⟩) (List.replicate m z0).length m) (List.replicate m z0) [w.heap.size] := fun w2 h2 =>
      SlO_iff.2 (.inr ⟨w.heap.size, m, arr, e, List.replicate m [], rfl, h2, by simp, by unfold maxLen; omega, by rw [hsz]; exact Nat.le_refl _, by simp, by simp, fun i y hi => by
        have him : i < m := by simpa using (List.getElem?_eq_some_iff.1 hi).1
        rw [List.getElem?_replicate, if_pos him] at hi
        cases hi
        refine ⟨[], by rw [List.getElem?_replicate, if_pos him], ?_⟩
        rw [hcut i him]
        exact hown0 w2⟩)
    have hbel : Below w.heap.size w (w.alloc (.cells arr e)) := (Below.refl _ _).alloc (Nat.le_refl _) _
    let l : Loc := ⟨some ⟨w.heap.size, 0, none⟩, m, [w.heap.size]⟩
    have hg : (θ ++ [l])[σ.m]? = some l := by rw [← h.len]; exact get_mid
    refine hK [l] _ _ ⟨by rw [List.length_append, h.len]; rfl, (h.env.ext (θ' := [l])).put hd ?_, S, w1, ?_⟩
    · have := h.sl0 (l := l) (List.replicate m z0).length
      rw [List.length_replicate] at this ⊢
      exact this
    · refine hh.ext.new hbel ?_ ?_ ?_ trivial
      · intro w2 hw2
        refine ⟨l, hg, h3 w2 ?_⟩
        have hmem : w.heap.size ∈ ((En.own α dα (List.replicate m z0)).ck (θ ++ [l]) σ.m).F := by
          show _ ∈ locF _ _
          rw [locF_of hg]
          simp [l]
        exact (hw2 _ hmem).trans (heap_alloc_new w _)
      · intro b hb
        have hb' : b ∈ locF (θ ++ [l]) σ.m := hb
        rw [locF_of hg] at hb'
        have : b = w.heap.size := by simpa [l] using hb'
        subst this
        exact ⟨Nat.le_refl _, (Array.getElem?_eq_some_iff.1 (heap_alloc_new w _)).1⟩
      · show (locF _ σ.m).Nodup
        rw [locF_of hg]
        simp [l]

/-- The address of an element of an own row. -/
theorem OpS.oidx {α : Type} {dα : Dat α} {t e by' r len : Nat} {x y : Operand} {i : Int} {xs : List α} (k : Nat) (hk : k < xs.length) (hx : ev σ.ρ x = some (.sl r len)) (hy : ev σ.ρ y = some (.v (.int .i64 i))) (hp : lkE σ.E r = some (.own α dα xs)) (hl : len = xs.length) (hi : i = k) (ht : c.ti t = .sl e (Dat.sz α) by') (hd : Nat.blt d σ.n = true) :
    OpS c σ all ⟨some d, .indexAddr t x y, ty, pos, after, none⟩ (put d (.pt r (k * Dat.sz α)) σ) :=
  OpS.of fun θ a w h K Q hK => by
    subst hi
    subst hl
    obtain ⟨S, w1, hh⟩ := h.heap
    obtain ⟨l, hl, hown⟩ := hh.own hp
    have hc := h.env.con hx
    simp only [V.con, hl, Option.some.injEq] at hc
    obtain ⟨b, hA⟩ : ∃ b, l.A = some ⟨b, 0, none⟩ := by
      rcases hown with ⟨h1, h2, _⟩ | ⟨g, cap, arr, T, Fs, h1, _⟩
      · rw [h2] at hk; exact absurd hk (by simp)
      · injection h1 with h1 _ _
        exact ⟨g, h1⟩
    have hti := c.tiok t
    rw [ht] at hti
    simp only [TI.chk, Bool.and_eq_true] at hti
    have hx' := h.env.is hx (by rw [h.env.con hx, ← hc, hA])
    have hy' := h.env.isv hy
    have hyy := y_indexAddr (P := c.P) (w := w) (ty := ty) h.env.env hx' hy' (by omega) (by omega) hti.2
    unfold Oper.wp
    rw [hyy]
    refine hK [] _ _ (h.put hd (v := .pt r (k * Dat.sz α)) ?_).app0
    obtain ⟨A, cap, F⟩ := l
    simp only at hA
    subst hA
    simp only [V.con, hl, Addr.add_zero', Int.toNat_natCast]
end

/-! ## Several chunks become one -/
theorem SH.fuse {S : Nat → Prop} {w0 w w' : World} {L D Q : List Ck} (h : SH S w0 w L) {c' : Ck} (hp : L.Perm (D ++ Q)) (hos : w'.os = w.os) (htape : w'.tape = w.tape) (hout : w'.output = w.output) (hsize : w.heap.size ≤ w'.heap.size)
    (hsame : ∀ b, b < w.heap.size → b ∉ D.flatMap (·.F) → w'.heap[b]? = w.heap[b]?) (hok : c'.ok w') (hF : ∀ b ∈ c'.F, (b ∈ D.flatMap (·.F) ∨ w.heap.size ≤ b) ∧ b < w'.heap.size) (hn : c'.F.Nodup) : SH S w0 w' (c' :: Q) := by
  have hap : (D.flatMap (·.F) ++ Q.flatMap (·.F)).Nodup := by
    rw [← List.flatMap_append]
    exact (hp.flatMap_right _).nodup_iff.1 h.apart
  obtain ⟨_, hQn, hdj⟩ := List.nodup_append.1 hap
  have hD : ∀ b ∈ D.flatMap (·.F), ¬ S b ∧ b < w.heap.size := fun b hb => by
    obtain ⟨c, hc, hbc⟩ := List.mem_flatMap.1 hb
    exact h.ge c (hp.mem_iff.2 (List.mem_append_left _ hc)) b hbc
  have hQ : ∀ c ∈ Q, c ∈ L := fun c hc => hp.mem_iff.2 (List.mem_append_right _ hc)
  refine ⟨?_, h.dom, ?_, ?_, ?_⟩
  · exact h.keep.trans ⟨hos, htape, hout, hsize, fun b hb => hsame b (by have := h.dom b hb; have := h.size; omega) fun hbF => (hD b hbF).1 hb⟩
  · intro d hd
    rcases List.mem_cons.1 hd with rfl | hd
    · exact hok
    · refine (h.ok d (hQ d hd)).same fun b hb => hsame b (h.ge d (hQ d hd) b hb).2 fun hbD => hdj b hbD b (List.mem_flatMap.2 ⟨d, hd, hb⟩) rfl
  · intro d hd b hb
    rcases List.mem_cons.1 hd with rfl | hd
    · obtain ⟨h1, h2⟩ := hF b hb
      refine ⟨?_, h2⟩
      rcases h1 with h1 | h1
      · exact (hD b h1).1
      · intro hSb; have := h.dom b hSb; have := h.size; omega
    · have := h.ge d (hQ d hd) b hb
      exact ⟨this.1, by omega⟩
  · rw [List.flatMap_cons, List.nodup_append]
    refine ⟨hn, hQn, fun b hb b' hb' => ?_⟩
    rintro rfl
    rcases (hF b hb).1 with h1 | h1
    · exact hdj b h1 b hb' rfl
    · obtain ⟨d, hd, hbd⟩ := List.mem_flatMap.1 hb'
      have := (h.ge d (hQ d hd) b hbd).2
      omega

def memN (n : Nat) : List Nat → Bool
  | [] => false
  | x :: r => bif Nat.beq n x then true else memN n r
def dropE (ns : List Nat) : List (Nat × En) → List (Nat × En)
  | [] => []
  | (r, x) :: E => bif memN r ns then dropE ns E else (r, x) :: dropE ns E
def takeE (ns : List Nat) : List (Nat × En) → List (Nat × En)
  | [] => []
  | (r, x) :: E => bif memN r ns then (r, x) :: takeE ns E else takeE ns E
theorem dropE_perm (ns : List Nat) : ∀ (E : List (Nat × En)), E.Perm (takeE ns E ++ dropE ns E)
  | [] => .nil
  | (r, x) :: E => by
    simp only [takeE, dropE]
    cases memN r ns with
    | true => exact (dropE_perm ns E).cons _
    | false => exact ((dropE_perm ns E).cons _).trans List.perm_middle.symm
theorem RH.fuse {c : Cx} {θ : List Loc} {E : List (Nat × En)} {S : Nat → Prop} {w1 w w' : World} (h : RH c θ E S w1 w) (ns : List Nat) {p : Nat × En} (hos : w'.os = w.os) (htape : w'.tape = w.tape) (hout : w'.output = w.output) (hsize : w.heap.size ≤ w'.heap.size)
    (hsame : ∀ b, b < w.heap.size → b ∉ (takeE ns E).flatMap (fun e => (e.2.ck θ e.1).F) → w'.heap[b]? = w.heap[b]?) (hok : (p.2.ck θ p.1).ok w') (hF : ∀ b ∈ (p.2.ck θ p.1).F, (b ∈ (takeE ns E).flatMap (fun e => (e.2.ck θ e.1).F) ∨ w.heap.size ≤ b) ∧ b < w'.heap.size) (hn : (p.2.ck θ p.1).F.Nodup) (hf : p.2.ok S w1 θ p.1) : RH c θ (p :: dropE ns E) S w1 w' := by
  refine ⟨h.k0, h.sub, ?_, fun e he => ?_⟩
  · rw [List.map_cons]
    refine h.sh.fuse (D := (takeE ns E).map fun e => e.2.ck θ e.1) (by rw [← List.map_append]; exact (dropE_perm ns E).map _) hos htape hout hsize ?_ hok ?_ hn
    · rw [List.flatMap_map]; exact hsame
    · rw [List.flatMap_map]; exact hF
  · rcases List.mem_cons.1 he with rfl | he
    · exact hf
    · exact h.ok e ((dropE_perm ns E).mem_iff.2 (List.mem_append_right _ he))

/-! ## Another name for the same place -/
mutual
def V.rn (r q : Nat) : V → V
  | .v x => .v x
  | .sl a n => bif Nat.beq a r then .sl q n else .sl a n
  | .pt a o => bif Nat.beq a r then .pt q o else .pt a o
  | .ag cs => .ag (rnL r q cs)
  | .fn f cs => .fn f (rnL r q cs)
  | .tu cs => .tu (rnL r q cs)
  | .gd b x => .gd b (x.rn r q)
def rnL (r q : Nat) : List V → List V
  | [] => []
  | x :: xs => x.rn r q :: rnL r q xs
end
def rnR (r q : Nat) : List (Nat × V) → List (Nat × V)
  | [] => []
  | (t, v) :: ρ => (t, v.rn r q) :: rnR r q ρ
def En.rn (r q : Nat) : En → En
  | .var cs T => .var (rnL r q cs) T
  | .lit cs T n => .lit (rnL r q cs) T n
  | .roc cs => .roc (rnL r q cs)
  | .own α d xs => .own α d xs
  | .ros α d xs => .ros α d xs
  | .itr s p => .itr s p
  | .pin l => .pin l
def rnE (r q : Nat) : List (Nat × En) → List (Nat × En)
  | [] => []
  | (t, e) :: E => (t, e.rn r q) :: rnE r q E

section
variable {θ : List Loc} {r q : Nat} {l l' : Loc}
mutual
theorem V.rn_con (hr : θ[r]? = some l) (hq : θ[q]? = some l') (hA : l'.A = l.A) (hc : l'.cap = l.cap) : ∀ (v : V), (v.rn r q).con θ = v.con θ
  | .v x => rfl
  | .sl a n => by
    simp only [V.rn]
    cases hb : Nat.beq a r with
    | false => rfl
    | true =>
      obtain rfl := Nat.eq_of_beq_eq_true hb
      simp only [cond_true, V.con, hr, hq, hA, hc]
  | .pt a o => by
    simp only [V.rn]
    cases hb : Nat.beq a r with
    | false => rfl
    | true =>
      obtain rfl := Nat.eq_of_beq_eq_true hb
      obtain ⟨A, cap, F⟩ := l
      obtain ⟨A', cap', F'⟩ := l'
      simp only at hA
      subst hA
      simp only [cond_true, V.con, hr, hq]
      cases A' <;> rfl
  | .ag cs => by simp only [V.rn, V.con, rnL_con hr hq hA hc cs]
  | .fn f cs => by simp only [V.rn, V.con, rnL_con hr hq hA hc cs]
  | .tu cs => by simp only [V.rn, V.con, rnL_con hr hq hA hc cs]
  | .gd true x => by simp only [V.rn, V.con]; exact V.rn_con hr hq hA hc x
  | .gd false x => rfl
theorem rnL_con (hr : θ[r]? = some l) (hq : θ[q]? = some l') (hA : l'.A = l.A) (hc : l'.cap = l.cap) : ∀ (cs : List V), conL θ (rnL r q cs) = conL θ cs
  | [] => rfl
  | x :: xs => by simp only [rnL, conL, V.rn_con hr hq hA hc x, rnL_con hr hq hA hc xs]
end
theorem rnR_lk : ∀ (ρ : List (Nat × V)) (t : Nat), lk (rnR r q ρ) t = (lk ρ t).map (V.rn r q)
  | [], _ => rfl
  | (k, v) :: ρ, t => by
    simp only [rnR, lk]
    cases Nat.beq k t with
    | true => rfl
    | false => exact rnR_lk ρ t
theorem En.rn_ck (hr : θ[r]? = some l) (hq : θ[q]? = some l') (hA : l'.A = l.A) (hc : l'.cap = l.cap) (e : En) (t : Nat) : (e.rn r q).ck θ t = e.ck θ t := by
  cases e <;> simp only [En.rn, En.ck, rnL_con hr hq hA hc]
theorem En.rn_ok (hr : θ[r]? = some l) (hq : θ[q]? = some l') (hA : l'.A = l.A) (hc : l'.cap = l.cap) {S : Nat → Prop} {w1 : World} (e : En) (t : Nat) : (e.rn r q).ok S w1 θ t ↔ e.ok S w1 θ t := by
  cases e <;> simp only [En.rn, En.ok, rnL_con hr hq hA hc]
theorem rnE_map : ∀ (E : List (Nat × En)), rnE r q E = E.map fun e => (e.1, e.2.rn r q)
  | [] => rfl
  | (t, e) :: E => by simp only [rnE, List.map_cons, rnE_map E]
theorem RH.rn {c : Cx} {E : List (Nat × En)} {S : Nat → Prop} {w1 w : World} (h : RH c θ E S w1 w) (hr : θ[r]? = some l) (hq : θ[q]? = some l') (hA : l'.A = l.A) (hc : l'.cap = l.cap) : RH c θ (rnE r q E) S w1 w := by
  rw [rnE_map]
  refine ⟨h.k0, h.sub, ?_, fun e he => ?_⟩
  · rw [List.map_map]
    have : ((fun e => e.2.ck θ e.1) ∘ fun e : Nat × En => (e.1, e.2.rn r q)) = fun e => e.2.ck θ e.1 := by
      funext e
      exact En.rn_ck hr hq hA hc e.2 e.1
    rw [this]
    exact h.sh
  · obtain ⟨e0, he0, rfl⟩ := List.mem_map.1 he
    exact (En.rn_ok hr hq hA hc e0.2 e0.1).2 (h.ok e0 he0)
theorem EnvV.rn {n : Nat} {ρ : List (Nat × V)} {a : Act} (h : EnvV n θ ρ a) (hr : θ[r]? = some l) (hq : θ[q]? = some l') (hA : l'.A = l.A) (hc : l'.cap = l.cap) : EnvV n θ (rnR r q ρ) a := by
  refine ⟨h.size, h.defers, fun t v hv => ?_⟩
  rw [rnR_lk, Option.map_eq_some_iff] at hv
  obtain ⟨v0, h0, rfl⟩ := hv
  rw [V.rn_con hr hq hA hc]
  exact h.get t v0 h0
end
end Go.Proofs.YtmjjcihoobnbgaaDoor.Fw
