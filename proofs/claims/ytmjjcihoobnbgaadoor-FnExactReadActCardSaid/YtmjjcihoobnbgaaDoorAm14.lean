/-
  The abstract machine: functions that change what a pointer holds. No condition: every lemma is general in the program.
-/
import Derived.Test.YtmjjcihoobnbgaaDoorAm13
namespace Go.Proofs.YtmjjcihoobnbgaaDoor.Fw
open Go.RowKit
set_option linter.unusedVariables false
set_option maxRecDepth 100000

/-! ## Names, handed on -/
def nthG (m : Nat) : List Nat → Nat → Nat
  | [], k => m + k
  | x :: r, k => bif Nat.beq k 0 then x else nthG m r (Nat.pred k)
mutual
def V.fw (f : List Nat) (m : Nat) : V → V
  | .v x => .v x
  | .sl r n => .sl (nthG m f r) n
  | .pt r o => .pt (nthG m f r) o
  | .ag cs => .ag (fwL f m cs)
  | .fn g cs => .fn g (fwL f m cs)
  | .tu cs => .tu (fwL f m cs)
  | .gd b x => .gd b (x.fw f m)
def fwL (f : List Nat) (m : Nat) : List V → List V
  | [] => []
  | x :: r => x.fw f m :: fwL f m r
end
def En.fw (f : List Nat) (m : Nat) : En → En
  | .var cs T => .var (fwL f m cs) T
  | .lit cs T n => .lit (fwL f m cs) T n
  | .roc cs => .roc (fwL f m cs)
  | .own α d xs => .own α d xs
  | .ros α d xs => .ros α d xs
  | .itr s p => .itr s p
  | .pin l => .pin l
def fwE (f : List Nat) (m : Nat) : List (Nat × En) → List (Nat × En)
  | [] => []
  | (r, e) :: E => (nthG m f r, e.fw f m) :: fwE f m E
theorem fwE_map {f : List Nat} {m : Nat} : ∀ E : List (Nat × En), fwE f m E = E.map fun e => (nthG m f e.1, e.2.fw f m)
  | [] => rfl
  | (r, e) :: E => by simp only [fwE, List.map_cons, fwE_map E]
section
variable {f : List Nat} {m : Nat} {θ1 θ2 : List Loc}
mutual
theorem V.fw_con (hf : ∀ r, θ1[r]? = θ2[nthG m f r]?) : ∀ v : V, (v.fw f m).con θ2 = v.con θ1
  | .v x => rfl
  | .sl r n => by simp only [V.fw, V.con, hf]
  | .pt r o => by simp only [V.fw, V.con, hf]
  | .ag cs => by simp only [V.fw, V.con, fwL_con hf cs]
  | .fn g cs => by simp only [V.fw, V.con, fwL_con hf cs]
  | .tu cs => by simp only [V.fw, V.con, fwL_con hf cs]
  | .gd b x => by simp only [V.fw, V.con, V.fw_con hf x]
theorem fwL_con (hf : ∀ r, θ1[r]? = θ2[nthG m f r]?) : ∀ cs : List V, conL θ2 (fwL f m cs) = conL θ1 cs
  | [] => rfl
  | x :: r => by simp only [fwL, conL, V.fw_con hf x, fwL_con hf r]
end
theorem En.fw_ck (hf : ∀ r, θ1[r]? = θ2[nthG m f r]?) (e : En) (r : Nat) : (e.fw f m).ck θ2 (nthG m f r) = e.ck θ1 r := by
  have hl : locF θ2 (nthG m f r) = locF θ1 r := by unfold locF; rw [hf]
  cases e <;> simp only [En.fw, En.ck, hl, hf, fwL_con hf]
end

/-! ## Shifts -/
def shrI (k : IntKind) (x y : Int) : Int := x.fdiv (2 ^ (min y.toNat k.bits))
def shlI (k : IntKind) (x y : Int) : Int := k.wrap (x * 2 ^ (min y.toNat k.bits))
section
variable {c : Cx} {σ : St} {all : Array Oper} {ty : TypeId} {pos : String} {after : Array Edge} {d : Nat}
theorem y_shr {P : Program} {n : Nat} {ρ : List (Nat × Value)} {a : Act} {w : World} {ty : TypeId} (hE : Env n ρ a) {x y : Operand} {t t' : Nat} {k q : IntKind} {i j : Int} (hx : ev? ρ x = some (.int k i)) (hy : ev? ρ y = some (.int q j)) (hj : 0 ≤ j) :
    Yields P a w (.binOp .shr t x y t') ty (.int k (shrI k i j)) := by
  intro _ _ _ _
  have h : ¬ j < 0 := by omega
  simp [execOp, hE.eval hx, hE.eval hy, binOp, Op.shift, shrI, eqGuard, h]
theorem y_shl {P : Program} {n : Nat} {ρ : List (Nat × Value)} {a : Act} {w : World} {ty : TypeId} (hE : Env n ρ a) {x y : Operand} {t t' : Nat} {k q : IntKind} {i j : Int} (hx : ev? ρ x = some (.int k i)) (hy : ev? ρ y = some (.int q j)) (hj : 0 ≤ j) :
    Yields P a w (.binOp .shl t x y t') ty (.int k (shlI k i j)) := by
  intro _ _ _ _
  have h : ¬ j < 0 := by omega
  simp [execOp, hE.eval hx, hE.eval hy, binOp, Op.shift, shlI, eqGuard, h]
theorem OpS.shr {t t' : Nat} {x y : Operand} {k q : IntKind} {i j : Int} (hx : ev σ.ρ x = some (.v (.int k i))) (hy : ev σ.ρ y = some (.v (.int q j))) (hd : Nat.blt d σ.n = true) (hj : 0 ≤ j) :
    OpS c σ all ⟨some d, .binOp .shr t x y t', ty, pos, after, none⟩ (put d (.v (.int k (shrI k i j))) σ) :=
  OpS.of fun θ a w h K Q hK => by
    unfold Oper.wp
    rw [y_shr (P := c.P) (w := w) (ty := ty) h.env.env (h.env.isv hx) (h.env.isv hy) hj]
    exact hK [] _ _ (h.put hd rfl).app0
theorem OpS.shl {t t' : Nat} {x y : Operand} {k q : IntKind} {i j : Int} (hx : ev σ.ρ x = some (.v (.int k i))) (hy : ev σ.ρ y = some (.v (.int q j))) (hd : Nat.blt d σ.n = true) (hj : 0 ≤ j) :
    OpS c σ all ⟨some d, .binOp .shl t x y t', ty, pos, after, none⟩ (put d (.v (.int k (shlI k i j))) σ) :=
  OpS.of fun θ a w h K Q hK => by
    unfold Oper.wp
    rw [y_shl (P := c.P) (w := w) (ty := ty) h.env.env (h.env.isv hx) (h.env.isv hy) hj]
    exact hK [] _ _ (h.put hd rfl).app0
theorem TkS.shr {E0 M : List (Nat × En)} {ops : Array Oper} {listed : Array Bool} {t t' : Nat} {x y : Operand} {k q : IntKind} {i i2 : Int} (j : Nat) (hj : 0 ≤ i2) (hi' : nthO ops.toList j = some ⟨some d, .binOp .shr t x y t', ty, pos, after, none⟩) (hB : takeB ops listed j = true) (hx : ev σ.ρ x = some (.v (.int k i))) (hy : ev σ.ρ y = some (.v (.int q i2))) (hd : Nat.blt d σ.n = true) :
    TkS c E0 M σ ops listed j (put d (.v (.int k (shrI k i i2))) σ) M := TkS.val j hi' hB (fun θ a w h w2 => y_shr h.env.env (h.env.isv hx) (h.env.isv hy) hj) hd
end
theorem andI_255 (k : IntKind) (x : Int) (hk : k = .i64) : 0 ≤ andI k x 255 ∧ andI k x 255 ≤ 255 := by
  subst hk
  unfold andI
  have h : (BitVec.ofInt IntKind.i64.bits x &&& BitVec.ofInt IntKind.i64.bits 255).toNat ≤ 255 := by
    rw [BitVec.toNat_and]
    exact Nat.le_trans Nat.and_le_right (by decide)
  rw [IntKind.wrap_i64]
  omega

/-! ## The contract -/
def thz (p : Nat → Loc) (n : Nat) : List Loc := (List.range n).map p
theorem thz_len {p : Nat → Loc} {n : Nat} : (thz p n).length = n := by simp [thz]
theorem thz_get {p : Nat → Loc} {n k : Nat} (h : k < n) : (thz p n)[k]? = some (p k) := by simp [thz, h]
theorem thz_take {p : Nat → Loc} {θ : List Loc} {n : Nat} (hn : n ≤ θ.length) (h : ∀ k, k < n → θ[k]? = some (p k)) : thz p n = θ.take n := by
  apply List.ext_getElem?
  intro k
  by_cases hk : k < n
  · rw [thz_get hk, List.getElem?_take, if_pos hk, h k hk]
  · rw [List.getElem?_eq_none (by rw [thz_len]; omega), List.getElem?_eq_none (by simp; omega)]
def pinsF (p : Nat → Loc) : Nat → Nat → List (Nat × En)
  | _, 0 => []
  | k, n + 1 => (k, .pin (p k)) :: pinsF p (k + 1) n
theorem pinsF_mem {p : Nat → Loc} : ∀ {n k i : Nat}, i < n → (k + i, En.pin (p (k + i))) ∈ pinsF p k n
  | 0, _, _, h => by omega
  | n + 1, k, 0, _ => List.mem_cons_self
  | n + 1, k, i + 1, h => by
    have := pinsF_mem (p := p) (n := n) (k := k + 1) (i := i) (by omega)
    rw [show k + 1 + i = k + (i + 1) by omega] at this
    exact List.mem_cons_of_mem _ this
theorem pinsF_is {p : Nat → Loc} : ∀ {n k : Nat} {e : Nat × En}, e ∈ pinsF p k n → ∃ i, k ≤ i ∧ i < k + n ∧ e = (i, .pin (p i))
  | 0, _, _, h => by cases h
  | n + 1, k, e, h => by
    rcases List.mem_cons.1 h with rfl | h
    · exact ⟨k, Nat.le_refl _, by omega, rfl⟩
    · obtain ⟨i, h1, h2, h3⟩ := pinsF_is h
      exact ⟨i, by omega, by omega, h3⟩

/-- What such a call leaves: what it was lent, as it is now, and what it hands back. -/
def MQ (S : Nat → Prop) (w : World) (p : Nat → Loc) (mk : Nat) (E1 : List (Nat × En)) (nn : Nat) (res : List V) (G0 : Prop) (w' : World) (v : Value) : Prop :=
  G0 ∧ ∃ η us, η.length = nn ∧ conL (thz p mk ++ η) res = some us ∧ v = pack us ∧ SH S w w' (E1.map fun e => e.2.ck (thz p mk ++ η) e.1)
/-- The contract of a function that is lent something. E0: what it is lent (names below m0; those below mk stand for the same after the call); F0: what it may read. -/
def CTM (P : Program) (G : World → Prop) (gs : List Nat) (f : FuncId) (mk m0 : Nat) (E0 F0 : List (Nat × En)) (args : List V) (E1 : List (Nat × En)) (nn : Nat) (res : List V) (G0 : Prop) : Prop :=
  ∀ (S : Nat → Prop) (w : World) (p : Nat → Loc) (us : List Value), (∀ w', Keep S w w' → G w') → (∀ g ∈ gs, S g) → SH S w w (E0.map fun e => e.2.ck (thz p m0) e.1) → Facts S w (thz p m0) F0 → conL (thz p m0) args = some us →
    Calls P f us.toArray w (fun e w' => ∃ v, e = .returned v ∧ MQ S w p mk E1 nn res G0 w' v)

/-! ## Off a run -/
def mkcxM {P : Program} {ti : Nat → TI} {zr : Nat → Option Value} {G : World → Prop} (s : SysOk P ti zr G) (fn : Func) (S : Nat → Prop) (w : World) (hG : ∀ w', Keep S w w' → G w') (hb : ∀ b, S b → b < w.heap.size) (Q : World → Value → Prop) : Cx := ⟨P, fn, ti, zr, G, S, w, s.tiok, s.zok, hG, hb, fun _ => Q⟩
theorem facts_ck {θ : List Loc} : ∀ {M : List (Nat × En)}, (∀ e ∈ M, ∀ θ r, e.2.ck θ r = ⟨[], fun _ => True⟩) → (M.map fun e => e.2.ck θ e.1).flatMap (·.F) = [] := by
  intro M h
  rw [List.flatMap_map, List.flatMap_eq_nil_iff]
  intro e he
  rw [h e he]
theorem SH.more {S : Nat → Prop} {w0 w : World} {L : List Ck} {θ : List Loc} {M : List (Nat × En)} (h : SH S w0 w L) (hM : ∀ e ∈ M, ∀ θ r, e.2.ck θ r = ⟨[], fun _ => True⟩) : SH S w0 w (L ++ M.map fun e => e.2.ck θ e.1) := by
  refine ⟨h.keep, h.dom, fun c hc => ?_, fun c hc b hb => ?_, ?_⟩
  · rcases List.mem_append.1 hc with hc | hc
    · exact h.ok c hc
    · obtain ⟨e, he, rfl⟩ := List.mem_map.1 hc
      rw [hM e he]
      exact fun _ _ => trivial
  · rcases List.mem_append.1 hc with hc | hc
    · exact h.ge c hc b hb
    · obtain ⟨e, he, rfl⟩ := List.mem_map.1 hc
      rw [hM e he] at hb
      cases hb
  · rw [List.flatMap_append, facts_ck hM, List.append_nil]
    exact h.apart
def En.isCk : En → Bool
  | .var _ _ => true
  | .lit _ _ _ => true
  | .own _ _ _ => true
  | .itr _ _ => true
  | _ => false
def isCks : List (Nat × En) → Bool
  | [] => true
  | (_, e) :: E => bif e.isCk then isCks E else false
theorem En.ok_ck {e : En} (h : e.isCk = true) {S : Nat → Prop} {w : World} {θ : List Loc} {r : Nat} : e.ok S w θ r := by
  cases e <;> first | trivial | cases h
theorem isCks_mem : ∀ {E : List (Nat × En)}, isCks E = true → ∀ e ∈ E, e.2.isCk = true
  | [], _, _, he => by cases he
  | (r, x) :: E, h, e, he => by
    simp only [isCks] at h
    cases hx : x.isCk with
    | false => rw [hx] at h; cases h
    | true =>
      rw [hx] at h
      rcases List.mem_cons.1 he with rfl | he
      · exact hx
      · exact isCks_mem h e he
theorem pins_ck {p : Nat → Loc} {k n : Nat} : ∀ e ∈ pinsF p k n, ∀ θ r, e.2.ck θ r = ⟨[], fun _ => True⟩ := fun e he θ r => by
  obtain ⟨i, _, _, rfl⟩ := pinsF_is he
  rfl
theorem CTM.of {G0 : Prop} {P : Program} {ti : Nat → TI} {zr : Nat → Option Value} {G : World → Prop} (s : SysOk P ti zr G) {gs : List Nat} {f : FuncId} {fn : Func} {code : Code} {n mk m0 nn : Nat} {E0 F0 E1 : List (Nat × En)} {args res : List V} (hf : P.funcs[f]? = some fn) (hb : fn.body = some code) (hn : fn.ntmps = n) (hl : Nat.ble args.length n = true) (hmk : Nat.ble mk m0 = true) (hE : isCks E0 = true)
    (h : ∀ S w p (hG : ∀ w', Keep S w w' → G w') (hb : ∀ b, S b → b < w.heap.size), (∀ g ∈ gs, S g) → Run (mkcxM s fn S w hG hb (MQ S w p mk E1 nn res G0)) [] ⟨n, m0, slotsV 0 args, E0 ++ F0 ++ pinsF p 0 mk⟩ [.code code]) : CTM P G gs f mk m0 E0 F0 args E1 nn res G0 := by
  intro S w p us hG hgs hS hF hc
  refine calls_of_wp hf hb ?_
  have hvl : us.length = args.length := conL_length hc
  have hle := Nat.le_of_ble_eq_true hl
  have hmk' := Nat.le_of_ble_eq_true hmk
  refine h S w p hG hS.dom hgs (thz p m0) _ w ⟨thz_len, ⟨?_, rfl, fun t v hv => ?_⟩, S, w, ?_⟩
  · show (us.toArray ++ Array.replicate (fn.ntmps - us.toArray.size) undef).size = n
    simp [hn]; omega
  · obtain ⟨_, u, hu, hcu⟩ := slotsV_lk hc hv
    rw [Nat.sub_zero] at hu
    have hlt := (List.getElem?_eq_some_iff.1 hu).1
    refine ⟨?_, by show t < n; omega⟩
    rw [hcu]
    simp [Array.getD_eq_getD_getElem?, Array.getElem?_append_left (show t < us.toArray.size by simpa using hlt), hu]
  · refine ⟨Keep.refl _ _, fun _ h => h, ?_, fun e he => ?_⟩
    · rw [List.map_append, List.map_append]
      exact (hS.more fun e he => (hF e he).2).more pins_ck
    · rcases List.mem_append.1 he with he | he
      · rcases List.mem_append.1 he with he | he
        · exact En.ok_ck (isCks_mem hE e he)
        · exact (hF e he).1
      · obtain ⟨i, _, h2, rfl⟩ := pinsF_is he
        exact thz_get (by omega)

theorem Run.keyM {c : Cx} {res' : List Re} {σ : St} {rs : List ResultVar} (hr : c.fn.results.toList = rs) (hl : Nat.ble rs.length 4 = true) {vs : List V} (hv : rvsV c.ti σ.ρ σ.E rs = some vs)
    {S : Nat → Prop} {w : World} {p : Nat → Loc} {mk nn : Nat} {E1 : List (Nat × En)} {res : List V} {G0 : Prop} (hg0 : G0) (hQ : ∀ R w' v, MQ S w p mk E1 nn res G0 w' v → c.Q R w' v) (hS0 : ∀ b, S b → c.S0 b) (hK : Keep S w c.w0) (hd : ∀ b, S b → b < w.heap.size)
    (f is : List Nat) (hlen : Nat.beq f.length (mk + nn) = true) (hs : SubE f σ.E is (E1 ++ pinsF p 0 mk)) (hn : is.Nodup) (hres : renL f res = some vs) {θ : List Loc} {a : Act} {w' : World} (h : R c θ σ a w') : post c res' .ret a w' := by
  have hlen' : f.length = mk + nn := Nat.eq_of_beq_eq_true hlen
  have hR := h.sub (σ2 := ⟨σ.n, mk + nn, [], E1 ++ pinsF p 0 mk⟩) (f := f) (is := is) ⟨rfl, hlen', trivial, hs⟩ hn
  obtain ⟨us, hus, hrl⟩ := rvsV_ok h hv
  obtain ⟨S1, w1, hh⟩ := hR.heap
  have hpin : ∀ k, k < mk → (renθ f θ)[k]? = some (p k) := fun k hk => by
    have := hh.ok (0 + k, .pin (p (0 + k))) (List.mem_append_right _ (pinsF_mem hk))
    rw [Nat.zero_add] at this
    exact this
  have hlr : (renθ f θ).length = mk + nn := hR.len
  have hsp : thz p mk ++ (renθ f θ).drop mk = renθ f θ := by
    rw [thz_take (by omega) hpin, List.take_append_drop]
  refine ⟨h.env.defers, _, results_rv hr hl hrl, _, rfl, hQ _ _ _ ⟨hg0, (renθ f θ).drop mk, us, by simp [hlr], by rw [hsp]; exact renL_con hres hus, rfl, ?_⟩⟩
  rw [hsp]
  have hsh := hh.sh
  rw [List.map_append] at hsh
  refine ⟨hK.trans ((hh.k0.trans (hsh.keep.mono hh.sub)).mono hS0), hd, fun c hc => hsh.ok c (List.mem_append_left _ hc), fun c hc b hb => ?_, ?_⟩
  · have := hsh.ge c (List.mem_append_left _ hc) b hb
    exact ⟨fun hS => this.1 (hh.sub b (hS0 b hS)), this.2⟩
  · have := hsh.apart
    rw [List.flatMap_append, List.nodup_append] at this
    exact this.1
theorem Run.retM {c : Cx} {res' : List Re} {σ : St} {k : List It} {rs : List ResultVar} (hr : c.fn.results.toList = rs) (hl : Nat.ble rs.length 4 = true) {vs : List V} (hv : rvsV c.ti σ.ρ σ.E rs = some vs)
    {S : Nat → Prop} {w : World} {p : Nat → Loc} {mk nn : Nat} {E1 : List (Nat × En)} {res : List V} {G0 : Prop} (hg0 : G0) (hQ : ∀ R w' v, MQ S w p mk E1 nn res G0 w' v → c.Q R w' v) (hS0 : ∀ b, S b → c.S0 b) (hK : Keep S w c.w0) (hd : ∀ b, S b → b < w.heap.size)
    (f is : List Nat) (hlen : Nat.beq f.length (mk + nn) = true) (hs : SubE f σ.E is (E1 ++ pinsF p 0 mk)) (hn : is.Nodup) (hres : renL f res = some vs) : Run c res' σ (.code .ret :: k) := by
  intro θ a w' h
  have key : post c res' .ret a w' := Run.keyM hr hl hv hg0 hQ hS0 hK hd f is hlen hs hn hres h
  refine wp_ret ?_
  clear hv hr hs hres
  induction k with
  | nil => exact key
  | cons x k ih => cases x <;> exact ih
theorem Run.endM {c : Cx} {res' : List Re} {σ : St} {rs : List ResultVar} (hr : c.fn.results.toList = rs) (hl : Nat.ble rs.length 4 = true) {vs : List V} (hv : rvsV c.ti σ.ρ σ.E rs = some vs)
    {S : Nat → Prop} {w : World} {p : Nat → Loc} {mk nn : Nat} {E1 : List (Nat × En)} {res : List V} {G0 : Prop} (hg0 : G0) (hQ : ∀ R w' v, MQ S w p mk E1 nn res G0 w' v → c.Q R w' v) (hS0 : ∀ b, S b → c.S0 b) (hK : Keep S w c.w0) (hd : ∀ b, S b → b < w.heap.size)
    (f is : List Nat) (hlen : Nat.beq f.length (mk + nn) = true) (hs : SubE f σ.E is (E1 ++ pinsF p 0 mk)) (hn : is.Nodup) (hres : renL f res = some vs) : Run c res' σ [] := fun θ a w' h => Run.keyM (res' := res') hr hl hv hg0 hQ hS0 hK hd f is hlen hs hn hres h

/-! ## The call -/
def consO (x : Option (Nat × En)) (l : List (Nat × En)) : List (Nat × En) := match x with
  | some y => y :: l
  | none => l
def pickE (E : List (Nat × En)) : List Nat → List (Nat × En)
  | [] => []
  | i :: is => consO (nthE E i) (pickE E is)
def afterM (σ : St) (d : Nat) (fk : List Nat) (E1 : List (Nat × En)) (nn : Nat) (res : List V) (rest : List Nat) : St :=
  ⟨σ.n, σ.m + nn, (d, packV (fwL fk σ.m res)) :: σ.ρ, fwE fk σ.m E1 ++ pickE σ.E rest⟩
theorem En.ok_off {M R : List Ck} {S : Nat → Prop} {w1 w : World} (h : SH S w1 w (M ++ R)) {θ : List Loc} {r : Nat} {e : En} (he : e.ok S w1 θ r) : e.ok (Off M w) w θ r := by
  cases e with
  | var => trivial
  | lit => trivial
  | own => trivial
  | itr => trivial
  | pin l => exact he
  | ros α d xs => obtain ⟨l, h1, h2⟩ := he; exact ⟨l, h1, h.upM h2⟩
  | roc cs => obtain ⟨l, A, ccs, h1, h2, h3, h4, h5⟩ := he; exact ⟨l, A, ccs, h1, h2, h3, h.inOff h4, h5.keep h.keep h4⟩
theorem nthG_lt {m : Nat} : ∀ {f : List Nat} {r q : Nat}, f[r]? = some q → nthG m f r = q
  | x :: f, 0, q, h => by simpa [nthG] using h
  | x :: f, r + 1, q, h => by
    simp only [nthG, Nat.beq, Nat.pred, cond]
    exact nthG_lt (by simpa using h)
theorem nthG_ge {m : Nat} : ∀ {f : List Nat} {r : Nat}, f.length ≤ r → nthG m f r = m + (r - f.length)
  | [], r, _ => rfl
  | x :: f, 0, h => by simp at h
  | x :: f, r + 1, h => by
    simp only [nthG, Nat.beq, Nat.pred, cond]
    rw [nthG_ge (by simpa using h), List.length_cons]
    omega
section
variable {f : List Nat} {θ1 θ2 : List Loc}
mutual
theorem V.ren_eq (hf : ∀ r q : Nat, f[r]? = some q → θ1[r]? = θ2[q]?) : ∀ {v u : V}, v.ren f = some u → v.con θ1 = u.con θ2
  | .v x, u, h => by simp only [V.ren] at h; cases h; rfl
  | .sl r n, u, h => by
    simp only [V.ren] at h
    split at h
    · rename_i q hq; cases h; simp only [V.con, hf r q hq]
    · cases h
  | .pt r n, u, h => by
    simp only [V.ren] at h
    split at h
    · rename_i q hq; cases h; simp only [V.con, hf r q hq]
    · cases h
  | .ag cs, u, h => by
    simp only [V.ren] at h
    split at h
    · rename_i l hl; cases h; simp only [V.con, renL_eq hf hl]
    · cases h
  | .fn g cs, u, h => by
    simp only [V.ren] at h
    split at h
    · rename_i l hl; cases h; simp only [V.con, renL_eq hf hl]
    · cases h
  | .tu cs, u, h => by
    simp only [V.ren] at h
    split at h
    · rename_i l hl; cases h; simp only [V.con, renL_eq hf hl]
    · cases h
  | .gd b x, u, h => by
    simp only [V.ren] at h
    split at h
    · rename_i l hl; cases h; simp only [V.con, V.ren_eq hf hl]
    · cases h
theorem renL_eq (hf : ∀ r q : Nat, f[r]? = some q → θ1[r]? = θ2[q]?) : ∀ {cs ds : List V}, renL f cs = some ds → conL θ1 cs = conL θ2 ds
  | [], ds, h => by simp only [renL] at h; cases h; rfl
  | x :: r, ds, h => by
    simp only [renL] at h
    split at h
    · rename_i a b h1 h2; cases h; simp only [conL, V.ren_eq hf h1, renL_eq hf h2]
    · cases h
end
theorem En.ren_ck_eq (hf : ∀ r q : Nat, f[r]? = some q → θ1[r]? = θ2[q]?) {r q : Nat} (hr : f[r]? = some q) {e e' : En} (h : e.ren f = some e') : e.ck θ1 r = e'.ck θ2 q := by
  have hl : locF θ1 r = locF θ2 q := by unfold locF; rw [hf r q hr]
  cases e with
  | var cs T =>
    simp only [En.ren] at h
    split at h
    · rename_i l hl'; cases h; simp only [En.ck, hl, hf r q hr, renL_eq hf hl']
    · cases h
  | lit cs T n =>
    simp only [En.ren] at h
    split at h
    · rename_i l hl'; cases h; simp only [En.ck, hl, hf r q hr, renL_eq hf hl']
    · cases h
  | own α d xs => simp only [En.ren] at h; cases h; simp only [En.ck, hl, hf r q hr]
  | itr s p => simp only [En.ren] at h; cases h; simp only [En.ck, hl, hf r q hr]
  | ros => simp only [En.ren] at h; cases h; rfl
  | pin => simp only [En.ren] at h; cases h; rfl
  | roc cs =>
    simp only [En.ren] at h
    split at h
    · cases h; rfl
    · cases h
theorem En.ren_ok_eq (hf : ∀ r q : Nat, f[r]? = some q → θ1[r]? = θ2[q]?) {r q : Nat} (hr : f[r]? = some q) {e e' : En} (h : e.ren f = some e') {S : Nat → Prop} {w : World} (hp : e'.ok S w θ2 q) : e.ok S w θ1 r := by
  cases e with
  | var => trivial
  | lit => trivial
  | own => trivial
  | itr => trivial
  | ros => simp only [En.ren] at h; cases h; simp only [En.ok, hf r q hr] at hp ⊢; exact hp
  | pin => simp only [En.ren] at h; cases h; simp only [En.ok, hf r q hr] at hp ⊢; exact hp
  | roc cs =>
    simp only [En.ren] at h
    split at h
    · rename_i l hl'; cases h; simp only [En.ok, hf r q hr, renL_eq hf hl'] at hp ⊢; exact hp
    · cases h
end
def En.isF : En → Bool
  | .ros _ _ _ => true
  | .roc _ => true
  | .pin _ => true
  | _ => false
def isFs : List (Nat × En) → Bool
  | [] => true
  | (_, e) :: E => bif e.isF then isFs E else false
theorem isFs_mem : ∀ {E : List (Nat × En)}, isFs E = true → ∀ e ∈ E, ∀ θ r, e.2.ck θ r = ⟨[], fun _ => True⟩
  | [], _, _, he => by cases he
  | (r, x) :: E, h, e, he => by
    simp only [isFs] at h
    cases hx : x.isF with
    | false => rw [hx] at h; cases h
    | true =>
      rw [hx] at h
      rcases List.mem_cons.1 he with rfl | he
      · intro θ r; cases x <;> first | rfl | cases hx
      · exact isFs_mem h e he
def allLt (m : Nat) : List Nat → Bool
  | [] => true
  | x :: r => bif Nat.blt x m then allLt m r else false
theorem allLt_spec {m : Nat} : ∀ {f : List Nat} {r q : Nat}, allLt m f = true → f[r]? = some q → q < m
  | x :: f, r, q, h, hq => by
    simp only [allLt] at h
    cases hx : Nat.blt x m with
    | false => rw [hx] at h; cases h
    | true =>
      rw [hx] at h
      cases r with
      | zero => simp at hq; subst hq; simpa using hx
      | succ r => exact allLt_spec h (by simpa using hq)
theorem OpSg.of {c : Cx} {σ σ' : St} {all : Array Oper} {dst : Option Tmp} {op : Op} {ty : TypeId} {pos : String} {after : Array Edge} {G : Prop}
    (h : ∀ θ a w, R c θ σ a w → ∀ (K : Act → World → Prop) (Q : Exit → Act → World → Prop), (∀ η a' w', R c (θ ++ η) σ' a' w' → G → K a' w') → Oper.wp c.P ⟨dst, op, ty, pos, after, none⟩ a w K Q) : OpSg c σ all ⟨dst, op, ty, pos, after, none⟩ σ' G := by
  intro θ a w hR K Q hK
  rw [if_pos (by simp [Region.wanted])]
  exact h θ a w hR K Q hK
/-- What a callee sees of it that may only read. -/
def borN : En → En
  | .own α d xs => .ros α d xs
  | .ros α d xs => .ros α d xs
  | .var cs T => .var cs T
  | .roc cs => .roc cs
  | .lit cs T n => .lit cs T n
  | .itr s p => .itr s p
  | .pin l => .pin l
def borL : List (Nat × En) → List (Nat × En)
  | [] => []
  | (r, e) :: E => (r, borN e) :: borL E
theorem borL_map : ∀ E : List (Nat × En), borL E = E.map fun e => (e.1, borN e.2)
  | [] => rfl
  | (r, e) :: E => by simp only [borL, List.map_cons, borL_map E]
def djB (is : List Nat) : List Nat → Bool
  | [] => true
  | j :: js => !(is.elem j) && djB is js
theorem djB_spec {is : List Nat} : ∀ {js : List Nat}, djB is js = true → ∀ j ∈ js, j ∉ is
  | [], _, _, h => by cases h
  | k :: js, h, j, hj => by
    simp only [djB, Bool.and_eq_true, Bool.not_eq_true'] at h
    rcases List.mem_cons.1 hj with rfl | hj
    · intro hm
      have := List.elem_eq_true_of_mem hm
      rw [h.1] at this
      cases this
    · exact djB_spec h.2 j hj
section
variable {c : Cx} {σ : St} {all : Array Oper} {ty : TypeId} {pos : String} {after : Array Edge} {d : Nat}
theorem OpS.callM {G0 : Prop} {gs : List Nat} {fid : FuncId} {mk m0 nn : Nat} {E0 F0 E1 : List (Nat × En)} {args res : List V} (hct : CTM c.P c.G gs fid mk m0 E0 F0 args E1 nn res G0) (hfn : FnOk c.P fid) (hgs : ∀ g ∈ gs, c.S0 g) (f fk is js rest : List Nat)
    {x : Operand} {cs : List V} {xs : Array Operand} {ts : Array TypeId} {vs : List V} (hx : ev σ.ρ x = some (.fn fid cs)) (hev : evs σ.ρ xs.toList = some vs) (hva : renL f args = some (vs ++ cs)) (hfm : Nat.beq f.length m0 = true) (hfk : f.take mk = fk) (hE0 : SubE f σ.E is E0) (hF0 : SubE f (borL σ.E) js F0) (hFs : isFs F0 = true) (hdj : djB is js = true)
    (hnd : (is ++ rest).Nodup) (hrest : rest.map (nthE σ.E) = (pickE σ.E rest).map some) (hd : Nat.blt d σ.n = true) (hlt : allLt σ.m f = true) (hmk : Nat.ble mk m0 = true) (hE1 : isCks E1 = true) :
    OpSg c σ all ⟨some d, .call { callee := .value x, args := xs, argTypes := ts }, ty, pos, after, none⟩ (afterM σ d fk E1 nn res rest) G0 :=
  OpSg.of fun θ a w h K Q hK => by
    obtain ⟨us, hus, hm⟩ := h.env.evsL hev
    obtain ⟨S, w1, hh⟩ := h.heap
    obtain ⟨fn, hf, hb, hn⟩ := hfn
    have hn' : ¬ fn.name = "runtime.NumGoroutine" := by simpa using hn
    have hb' : ¬ fn.body = none := by intro e; rw [e] at hb; cases hb
    have hxc := h.env.con hx
    simp only [V.con, Option.map_eq_some_iff] at hxc
    obtain ⟨capt, hcapt, hfv⟩ := hxc
    have hmm : xs.map a.eval = us.toArray := by
      apply Array.toList_inj.1
      rw [Array.toList_map, Fw.evals h.env.env hm]
    have hfm' : f.length = m0 := Nat.eq_of_beq_eq_true hfm
    have hmk' : mk ≤ m0 := Nat.le_of_ble_eq_true hmk
    -- the names
    let p : Nat → Loc := fun k => θ.getD (f.getD k 0) ⟨none, 0, []⟩
    have hget : ∀ r q : Nat, f[r]? = some q → θ[q]? = some (p r) := fun r q hq => by
      have hl := allLt_spec hlt hq
      rw [← h.len] at hl
      simp [p, hq, hl]
    have hren : ∀ r q : Nat, f[r]? = some q → (thz p m0)[r]? = θ[q]? := fun r q hq => by
      have hr := (List.getElem?_eq_some_iff.1 hq).1
      rw [thz_get (by omega), hget r q hq]
    -- what it is lent
    obtain ⟨Z, hZ1, hZ2, hZ3⟩ := SubE_zip hE0
    obtain ⟨Y, hY1, hY2, hY3⟩ := SubE_zip hF0
    have hpk : (is ++ rest).map (fun i => σ.E[i]?) = (Z.map (·.2) ++ pickE σ.E rest).map some := by
      rw [List.map_append, List.map_append, hZ2, List.map_map]
      congr 1
      have hr2 : rest.map (fun i => σ.E[i]?) = (pickE σ.E rest).map some := by
        have : ∀ (l : List Nat) (L : List (Nat × En)), l.map (nthE σ.E) = L.map some → l.map (fun i => σ.E[i]?) = L.map some := by
          intro l
          induction l with
          | nil => intro L hL; cases L with
            | nil => rfl
            | cons => simp at hL
          | cons i l ih => intro L hL; cases L with
            | nil => simp at hL
            | cons e L =>
              simp only [List.map_cons, List.cons.injEq] at hL ⊢
              exact ⟨nthE_spec hL.1, ih L hL.2⟩
        exact this _ _ hrest
      exact hr2
    have hsh : SH S w1 w (E0.map (fun e => e.2.ck (thz p m0) e.1) ++ (pickE σ.E rest).map fun e => e.2.ck θ e.1) := by
      have h1 : SH S w1 w ((Z.map (·.2) ++ pickE σ.E rest).map fun e => e.2.ck θ e.1) := by
        refine hh.sh.pick (is ++ rest) hnd ?_
        have h2 : ((is ++ rest).map fun i => (σ.E.map fun e => e.2.ck θ e.1)[i]?) = ((is ++ rest).map fun i => σ.E[i]?).map (Option.map fun e => e.2.ck θ e.1) := by
          rw [List.map_map]
          refine List.map_congr_left fun i _ => ?_
          simp
        rw [h2, hpk, List.map_map, List.map_map]
        rfl
      have h3 : E0.map (fun e => e.2.ck (thz p m0) e.1) = (Z.map (·.2)).map fun e => e.2.ck θ e.1 := by
        rw [← hZ1, List.map_map, List.map_map]
        refine List.map_congr_left fun z hz => ?_
        exact En.ren_ck_eq hren (hZ3 z hz).1 (hZ3 z hz).2.1
      rw [h3, ← List.map_append]
      exact h1
    have hfa : Facts (Off (E0.map fun e => e.2.ck (thz p m0) e.1) w) w (thz p m0) F0 := fun e he => by
      refine ⟨?_, isFs_mem hFs e he⟩
      rw [← hY1] at he
      obtain ⟨z, hz, rfl⟩ := List.mem_map.1 he
      refine En.ren_ok_eq hren (hY3 z hz).1 (hY3 z hz).2.1 ?_
      have hzm : some z.2 ∈ js.map fun i => (borL σ.E)[i]? := by rw [hY2]; exact List.mem_map.2 ⟨z, hz, rfl⟩
      obtain ⟨j, hj, hjz⟩ := List.mem_map.1 hzm
      rw [borL_map, List.getElem?_map, Option.map_eq_some_iff] at hjz
      obtain ⟨⟨q, e⟩, hqe, hez⟩ := hjz
      rw [← hez]
      have hem : (q, e) ∈ σ.E := List.mem_of_getElem? hqe
      cases e with
      | own α dα xs =>
        obtain ⟨l, hl, ho⟩ := (hh.sh.ok _ (List.mem_map.2 ⟨_, hem, rfl⟩)).here
        refine ⟨l, hl, ho.rd fun b hb => ⟨ho.lt b hb, fun hm => ?_⟩⟩
        have hLj : (σ.E.map fun e => e.2.ck θ e.1)[j]? = some ((En.own α dα xs).ck θ q) := by rw [List.getElem?_map, hqe]; rfl
        obtain ⟨ck, hck, hbc⟩ := List.mem_flatMap.1 hm
        have h3 : E0.map (fun e => e.2.ck (thz p m0) e.1) = (Z.map (·.2)).map fun e => e.2.ck θ e.1 := by
          rw [← hZ1, List.map_map, List.map_map]
          refine List.map_congr_left fun z hz => ?_
          exact En.ren_ck_eq hren (hZ3 z hz).1 (hZ3 z hz).2.1
        rw [h3] at hck
        obtain ⟨e2, he2, rfl⟩ := List.mem_map.1 hck
        obtain ⟨z2, hz2, rfl⟩ := List.mem_map.1 he2
        have hzi : some z2.2 ∈ is.map fun i => σ.E[i]? := by rw [hZ2]; exact List.mem_map.2 ⟨z2, hz2, rfl⟩
        obtain ⟨i, hi, hiz⟩ := List.mem_map.1 hzi
        have hLi : (σ.E.map fun e => e.2.ck θ e.1)[i]? = some (z2.2.2.ck θ z2.2.1) := by rw [List.getElem?_map, hiz]; rfl
        refine hh.sh.dj hLj hLi (fun e => djB_spec hdj j hj (e ▸ hi)) b ?_ hbc
        show b ∈ locF θ q
        rw [locF_of hl]
        exact hb
      | ros α dα xs => exact En.ok_off hsh (hh.ok _ hem)
      | var => trivial
      | roc cs => exact En.ok_off hsh (hh.ok _ hem)
      | lit => trivial
      | itr => trivial
      | pin l => exact En.ok_off hsh (hh.ok _ hem)
    have hG : ∀ w', Keep (Off (E0.map fun e => e.2.ck (thz p m0) e.1) w) w w' → c.G w' := fun w' hk => c.gok w' (hh.keep.trans (hk.mono fun b hb => hsh.inOff (hh.sub b hb)))
    have hargs : conL (thz p m0) args = some (us ++ capt) := by
      rw [renL_eq hren hva]
      exact conL_app hus hcapt
    unfold Oper.wp
    have : (execOp a.eval ⟨some d, .call { callee := .value x, args := xs, argTypes := ts }, ty, pos, after, none⟩).run c.P w = .ok (.enter fid (us ++ capt).toArray) w := by
      simp [execOp, resolve, hmm, ← hfv, Deferred.ofValue, invoke, callFunc, hf, hn', hb']
    rw [this, Oper.upon_enter]
    refine (hct _ w p (us ++ capt) hG (fun g hg => hsh.inOff (hh.sub g (hgs g hg))) hsh.off hfa hargs).mono fun e w' hr => ?_
    obtain ⟨v, rfl, hg0, η, us', hη, hc', rfl, hs'⟩ := hr
    -- behind it
    have hnm : ∀ r, (thz p mk ++ η)[r]? = (θ ++ η)[nthG θ.length fk r]? := fun r => by
      have hlf : fk.length = mk := by rw [← hfk, List.length_take]; omega
      rcases Nat.lt_or_ge r mk with hr | hr
      · have hq : ∃ q, fk[r]? = some q := ⟨_, List.getElem?_eq_getElem (by omega)⟩
        obtain ⟨q, hq⟩ := hq
        have hq' : f[r]? = some q := by
          rw [← hfk, List.getElem?_take, if_pos hr] at hq
          exact hq
        rw [nthG_lt hq, List.getElem?_append_left (by rw [thz_len]; exact hr), thz_get hr]
        exact (get_ext (hget r q hq')).symm
      · rw [nthG_ge (by omega), List.getElem?_append_right (by rw [thz_len]; exact hr), List.getElem?_append_right (by omega), thz_len, hlf]
        congr 1
        omega
    have hcall := SH.callM hsh hs'
    have hfin : SH S w1 w' ((fwE fk σ.m E1 ++ pickE σ.E rest).map fun e => e.2.ck (θ ++ η) e.1) := by
      have h4 : SH S w1 w' (E1.map (fun e => e.2.ck (thz p mk ++ η) e.1) ++ (pickE σ.E rest).map fun e => e.2.ck (θ ++ η) e.1) := by
        have h5 := @SH.map2 S w1 w' (Sum (Nat × En) (Nat × En)) (E1.map Sum.inl ++ (pickE σ.E rest).map Sum.inr) (fun s => match s with | .inl e => e.2.ck (thz p mk ++ η) e.1 | .inr e => e.2.ck θ e.1) (fun s => match s with | .inl e => e.2.ck (thz p mk ++ η) e.1 | .inr e => e.2.ck (θ ++ η) e.1) (by
          rw [List.map_append, List.map_map, List.map_map]
          exact hcall) (fun e he hp => by
            cases e with
            | inl e => exact ⟨rfl, fun _ h => h⟩
            | inr e => exact En.ck_ext hp)
        rw [List.map_append, List.map_map, List.map_map] at h5
        exact h5
      have h6 : (fwE fk σ.m E1).map (fun e => e.2.ck (θ ++ η) e.1) = E1.map fun e => e.2.ck (thz p mk ++ η) e.1 := by
        rw [fwE_map, List.map_map]
        refine List.map_congr_left fun e _ => ?_
        rw [← h.len]
        exact En.fw_ck hnm e.2 e.1
      rw [List.map_append, h6]
      exact h4
    have hcon : conL (θ ++ η) (fwL fk σ.m res) = some us' := by
      rw [← h.len, fwL_con hnm]
      exact hc'
    refine hK η _ w' ⟨by rw [List.length_append, h.len, hη]; rfl, (h.env.ext (θ' := η)).back (h.env.env.put hd (pack us')) (packV_con hcon) hd, S, w1, hh.k0, hh.sub, hfin, fun e he => ?_⟩ hg0
    rcases List.mem_append.1 he with he | he
    · rw [fwE_map] at he
      obtain ⟨e0, he0, rfl⟩ := List.mem_map.1 he
      have := isCks_mem hE1 e0 he0
      obtain ⟨r0, e0⟩ := e0
      cases e0 <;> first | trivial | cases this
    · have : some e ∈ rest.map (nthE σ.E) := by rw [hrest]; exact List.mem_map.2 ⟨e, he, rfl⟩
      obtain ⟨i, _, hi⟩ := List.mem_map.1 this
      exact En.ok_ext (hh.ok e (List.mem_of_getElem? (nthE_spec hi)))
end

/-! ## Loops in functions that are lent something: the model's equation stands in what holds -/
theorem Run.loopM {c : Cx} {res : List Re} {σ : St} {b : Code} {k : List It} {ι τ : Type} {T : τ} (F : ι → τ) (st : ι → St) (inv : ι → Prop) (μ : ι → Nat) (i0 : ι) (f is : List Nat) (hp : T = F i0) (h0 : inv i0) (hs : Sub f is σ (st i0)) (hn : is.Nodup)
    (body : ∀ i, inv i → T = F i → Run c res (st i) (.code b :: .goal (Again c st (fun _ => res) (fun i => inv i ∧ T = F i) μ i) :: k)) : Run c res σ (.code (.loop b) :: k) :=
  Run.loop st (fun _ => res) (fun i => inv i ∧ T = F i) μ i0 f is rfl ⟨h0, hp⟩ hs hn fun i hi => body i hi.1 hi.2
theorem Run.loopkM {c : Cx} {res : List Re} {σ : St} {b : Code} {id : Nat} {k : List It} {ι κ τ : Type} {T : τ} {K : κ → τ} (F : (κ → τ) → ι → τ) (st : ι → St) (inv : ι → Prop) (μ : ι → Nat) (stK : κ → St) (invK : κ → Prop) (i0 : ι) (f is : List Nat)
    (hp : T = F K i0) (h0 : inv i0) (hs : Sub f is σ (st i0)) (hn : is.Nodup)
    (hk : ∀ e, invK e → T = K e → Run c res (stK e) k)
    (body : ∀ K : κ → τ, (∀ e, invK e → T = K e → Run c res (stK e) k) → ∀ i, inv i → T = F K i → Run c res (st i) (.code b :: .goal (Again c st (fun _ => res) (fun i => inv i ∧ T = F K i) μ i) :: .blk id :: k)) :
    Run c res σ (.code (.loop b) :: .blk id :: k) :=
  Run.loop st (fun _ => res) (fun i => inv i ∧ T = F K i) μ i0 f is rfl ⟨h0, hp⟩ hs hn fun i hi => body K hk i hi.1 hi.2
theorem Run.exitkM {c : Cx} {res : List Re} {σ : St} {k : List It} {κ τ : Type} {T : τ} {K : κ → τ} {stK : κ → St} {invK : κ → Prop} (hk : ∀ e, invK e → T = K e → Run c res (stK e) k) (e : κ) (f is : List Nat) (hp : T = K e) (hi : invK e) (hs : Sub f is σ (stK e)) (hn : is.Nodup) : Run c res σ k := Run.sub f is _ hs hn (hk e hi hp)

/-- A state by another name. -/
theorem Run.cg {c : Cx} {res : List Re} {σ σ' : St} {k : List It} (hs : σ = σ') (h : Run c res σ' k) : Run c res σ k := by rw [hs]; exact h
end Go.Proofs.YtmjjcihoobnbgaaDoor.Fw
