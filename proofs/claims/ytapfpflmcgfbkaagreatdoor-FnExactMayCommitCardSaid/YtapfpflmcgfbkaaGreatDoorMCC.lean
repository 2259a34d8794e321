/-
  The texts Ri24, Am9, Ri23, KT, KR, DKp, KXM, KS, QT, Q1, Q2, Q3, Q4, Q5, Q6 of this proof, one behind the other: what each proves stands at its head. No condition.
-/
import Derived.Test.YtapfpflmcgfbkaaGreatDoorProg
import Derived.KernelRfl
import Derived.Sort.KeysCollected
import Derived.Lib.ItoaLen
import Derived.Lib.AtoiAll
import Derived.Shelf.Hex.More
import Derived.Test.YtapfpflmcgfbkaaGreatDoorMCA
import Derived.Test.YtapfpflmcgfbkaaGreatDoorMCB
namespace Go.Proofs.YtapfpflmcgfbkaaGreatDoor.Ri
open Go.Proofs.YtapfpflmcgfbkaaGreatDoor.Fw
open Go.RowKit
set_option linter.unusedVariables false
set_option linter.unusedSimpArgs false
section
variable {τ:Tab} {R:Type} {Z:Lw τ} {fid:Nat} {D: ∀ f,InT τ (Z.sg f)→Option (OutT τ (Z.sg f))} {pins:List Nat}
def Loc (Z:Lw τ) {α:Type} (D: ∀ f,InT τ (Z.sg f)→Option (OutT τ (Z.sg f))) (g:(∀ f,InT τ (Z.sg f)→Option (OutT τ (Z.sg f)))→Option α) (r:α):Prop:=
 (∀ D',g D'=some r) ∨ ∃ f x y,D f x=some y∧ ∀ D',D' f x=some y→g D'=some r
theorem callK_loc {vr:Nat→Nat} {l:Nat→Option (Sl τ)} {El:Nat→Option (Ex τ)} {G:List (Nat×Bool)} {b:Nat} {c:Call} {k:Eff τ→Option R} {r:R} (h:callK Z D vr l El G b c k=some r):Loc Z D (fun D=>callK Z D vr l El G b c k) r:=by
 unfold callK at h
 split at h
 ·rename_i f0 cl hc
  obtain⟨f,hf⟩: ∃ f,vr f0=f:=⟨_,rfl⟩
  have e: ∀ D': ∀ f,InT τ (Z.sg f)→Option (OutT τ (Z.sg f)),callK Z D' vr l El G b c k=callV Z D' l El G b c.args.toList cl k f0 f:=fun D'=>by unfold callK;rw[hc];show callV _ _ _ _ _ _ _ _ _ _ _=_;rw[hf]
  rw[hf] at h
  have h0:=h
  unfold callV at h
  cases h1:Nat.beq (Z.bs f) f0 with
  | false=>rw[h1] at h;cases h
  | true =>
   rw[h1] at h
   simp only[cond_true] at h
   split at h
   ·rename_i vs hvs
    split at h
    ·rename_i x L fr hx
     cases h2:nodupN (somes L) with
     | false=>rw[h2] at h;cases h
     | true =>
      cases h3:apart (somes L) fr with
      | false=>rw[h2,h3] at h;cases h
      | true =>
       rw[h2,h3] at h
       simp only[cond_true] at h
       split at h
       ·rename_i y hy
        refine .inr ⟨f,x,y,hy,fun D' h'=>?_⟩
        show callK Z D' vr l El G b c k=some r
        rw[e]
        simp only[callV,h1,hvs,hx,h2,h3,cond_true,h']
        exact h
       ·cases h
    ·cases h
   ·cases h
 ·cases h
theorem stepK_loc {nx:Nat} {ops:List Oper} {q:Nat→Bool} {b:Nat} {l:Nat→Option (Sl τ)} {El:Nat→Option (Ex τ)} {o:Oper} {σ:Sx τ} {k:Nat→Sx τ→Option R} {r:R} (h:stepK Z fid D pins nx ops q b l El o σ k=some r):Loc Z D (fun D=>stepK Z fid D pins nx ops q b l El o σ k) r:=by
 have call: ∀ {G:List (Nat×Bool)} {c:Call} {k':Eff τ→Option R},callK Z D (Z.vr fid) l El G b c k'=some r→(∀ D',stepK Z fid D' pins nx ops q b l El o σ k=callK Z D' (Z.vr fid) l El G b c k')→Loc Z D (fun D=>stepK Z fid D pins nx ops q b l El o σ k) r:=by
  intro G c k' h1 h2
  rcases callK_loc h1 with h3 | ⟨f,x,y,h3,h4⟩
  ·exact .inl fun D'=>(h2 D').trans (h3 D')
  ·exact .inr ⟨f,x,y,h3,fun D' h'=>(h2 D').trans (h4 D' h')⟩
 have h0:=h
 unfold stepK at h
 split at h
 ·rename_i hg
  split at h
  ·rename_i c v hv
   exact .inl fun D'=>by unfold stepK;simp only[hg,hv];exact h
  ·rename_i hv
   split at h
   ·rename_i c ef he
    exact .inl fun D'=>by unfold stepK;simp only[hg,hv,he];exact h
   ·rename_i he
    split at h
    ·rename_i c hop
     refine call h fun D'=>?_
     unfold stepK
     rw[hop] at hv he
     simp only[hg,hop,hv,he]
    ·cases h
 ·rename_i j want hg
  split at h
  ·rename_i t ht
   split at h
   ·rename_i g G hgr
    split at h
    ·rename_i c v hv
     exact .inl fun D'=>by unfold stepK;simp only[hg,ht,hgr,hv];exact h
    ·rename_i hv
     cases hgt:g with
     | false =>
      subst hgt
      exact .inl fun D'=>by unfold stepK;simp only[hg,ht,hgr,hv];exact h
     | true =>
      subst hgt
      simp only[cond_true] at h
      split at h
      ·rename_i c ef he
       exact .inl fun D'=>by unfold stepK;simp only[hg,ht,hgr,hv,he,cond_true];exact h
      ·rename_i he
       split at h
       ·rename_i c hop
        refine call h fun D'=>?_
        unfold stepK
        rw[hop] at hv he
        simp only[hg,ht,hgr,hop,hv,he,cond_true]
       ·cases h
   ·cases h
  ·cases h
end
def Ev (p:Nat→Prop):Prop:= ∃ N,∀ n,N≤n→p n
theorem Ev.all {p:Nat→Prop} (h: ∀ n,p n):Ev p:=⟨0,fun n _=>h n⟩
theorem Ev.and {p q r:Nat→Prop} (h1:Ev p) (h2:Ev q) (h: ∀ n,p n→q n→r n):Ev r:=by
 obtain⟨N,h1⟩:=h1
 obtain⟨M,h2⟩:=h2
 exact⟨max N M,fun n hn=>h n (h1 n (by omega)) (h2 n (by omega))⟩
def Lim {α β:Type} (k:α→Option β) (kn:Nat→α→Option β):Prop:= ∀ a r,k a=some r→Ev fun n=>kn n a=some r
def Lim2 {α β γ:Type} (k:α→γ→Option β) (kn:Nat→α→γ→Option β):Prop:= ∀ a c r,k a c=some r→Ev fun n=>kn n a c=some r
section
variable {τ:Tab} {R:Type} {Z:Lw τ} {fid:Nat} {D: ∀ f,InT τ (Z.sg f)→Option (OutT τ (Z.sg f))} {Dn:Nat→ ∀ f,InT τ (Z.sg f)→Option (OutT τ (Z.sg f))} {pins:List Nat}
theorem Loc.ev {α : Type} {g : (∀ f, InT τ (Z.sg f) → Option (OutT τ (Z.sg f))) → Option α} {r : α} (h : Loc Z D g r) (hD : ∀ f, Lim (D f) fun n => Dn n f) : Ev fun n => g (Dn n) = some r := by
 rcases h with h | ⟨f,x,y,h1,h2⟩
 ·exact Ev.all fun n=>h _
 ·obtain⟨N,h3⟩:=hD f x y h1
  exact⟨N,fun n hn=>h2 _ (h3 n hn)⟩
theorem stepK_of {nx:Nat} {ops:List Oper} {q:Nat→Bool} {b:Nat} {l:Nat→Option (Sl τ)} {El:Nat→Option (Ex τ)} {o:Oper} {σ σ':Sx τ} {c:Nat} (h:stepO Z fid D pins nx ops q b l El o σ=some (c,σ')) (k:Nat→Sx τ→Option R):stepK Z fid D pins nx ops q b l El o σ k=k c σ':=by
 have put: ∀ {c0:Nat} {d:Option Nat} {s:Sl τ} {σ:Sx τ},putK pins d s σ (fun σ'=>some (c0,σ'))=some (c,σ')→putK pins d s σ (k c0)=k c σ':=by
  intro c0 d s σ h
  obtain⟨σ1,h1,h2⟩:=putK_bind h
  cases h2
  exact h1 _ _
 have app: ∀ {c0:Nat} {d:Option Nat} {q:Nat→Bool} {ef:Eff τ} {σ:Sx τ},appK pins d q ef σ (fun σ'=>some (c0,σ'))=some (c,σ')→appK pins d q ef σ (k c0)=k c σ':=by
  intro c0 d q ef σ h
  obtain⟨σ1,h1,h2⟩:=appK_bind h
  cases h2
  exact h1 _ _
 unfold stepO stepK at h
 unfold stepK
 split at h
 ·rename_i hg
  try simp only[hg]
  split at h
  ·rename_i c0 v hv
   try simp only[hv]
   cases hc:c0 with
   | false=>rw[hc] at h;cases h
   | true =>
    rw[hc] at h
    simp only[cond_true] at h ⊢
    cases hb:v.bl q with
    | false=>rw[hb] at h;cases h
    | true=>rw[hb] at h;exact put h
  ·rename_i hv
   try simp only[hv]
   split at h
   ·rename_i c0 ef he
    try simp only[he]
    cases hc:c0 with
    | false=>rw[hc] at h;cases h
    | true=>rw[hc] at h;exact app h
   ·rename_i he
    try simp only[he]
    split at h
    ·rename_i cl hop
     try simp only[hop]
     obtain⟨ef,h1,h2⟩:=callK_bind h
     rw[h1]
     exact app h2
    ·cases h
 ·rename_i j want hg
  try simp only[hg]
  split at h
  ·rename_i t ht
   try simp only[ht]
   split at h
   ·rename_i g G hgr
    try simp only[hgr]
    split at h
    ·rename_i c0 v hv
     try simp only[hv]
     cases hc:(bif c0 then true else !g) with
     | false=>rw[hc] at h;cases h
     | true =>
      rw[hc] at h
      simp only[cond_true] at h ⊢
      cases hb:v.bl q&&gdok o.dst t with
      | false=>rw[hb] at h;cases h
      | true=>rw[hb] at h;exact put h
    ·rename_i hv
     try simp only[hv]
     cases hgt:g with
     | false =>
      rw[hgt] at h
      exact put h
     | true =>
      rw[hgt] at h
      simp only[cond_true] at h ⊢
      split at h
      ·rename_i c0 ef he
       try simp only[he]
       cases hc:c0 with
       | false=>rw[hc] at h;cases h
       | true=>rw[hc] at h;exact app h
      ·rename_i he
       try simp only[he]
       split at h
       ·rename_i cl hop
        try simp only[hop]
        obtain⟨ef,h1,h2⟩:=callK_bind h
        rw[h1]
        exact app h2
       ·cases h
   ·cases h
  ·cases h
theorem stepK_lim {nx : Nat} {ops : List Oper} {q : Nat → Bool} {b : Nat} {l : Nat → Option (Sl τ)} {El : Nat → Option (Ex τ)} {o : Oper} {σ : Sx τ} {k : Nat → Sx τ → Option R} {kn : Nat → Nat → Sx τ → Option R} {r : R} (hD : ∀ f, Lim (D f) fun n => Dn n f) (hk : Lim2 k kn) (h : stepK Z fid D pins nx ops q b l El o σ k = some r) : Ev fun n => stepK Z fid (Dn n) pins nx ops q b l El o σ (kn n) = some r := by
 obtain⟨c,σ',h1,h2⟩:=stepK_bind h
 refine Ev.and ((stepK_loc h1).ev hD) (hk c σ' r h2) fun n h3 h4=>?_
 rw[stepK_of h3]
 exact h4
theorem rgnK_lim (hD : ∀ f, Lim (D f) fun n => Dn n f) {ops : List Oper} {k : Sx τ → Nat → Option R} {kn : Nat → Sx τ → Nat → Option R} (hk : Lim2 k kn) : ∀ {rs : List Oper} {b : Nat} {σ : Sx τ} {r : R}, rgnK Z fid D pins ops b rs σ k = some r → Ev fun n => rgnK Z fid (Dn n) pins ops b rs σ (kn n) = some r
 | [],b,σ,r,h=>hk _ _ _ h
 | o :: rs, b, σ, r, h => by
  simp only[rgnK,knowG_eq] at h ⊢
  exact stepK_lim (kn:=fun n _ σ'=>rgnK Z fid (Dn n) pins ops (b+16) rs σ' (kn n)) hD (fun c σ' r h'=>rgnK_lim hD hk h') h
theorem drawK_lim (hD : ∀ f, Lim (D f) fun n => Dn n f) {ops : List Oper} {A : List Nat} {H : Nat → Nat} {nx : Nat} {k : Sx τ → Nat → Option R} {kn : Nat → Sx τ → Nat → Option R} (hk : Lim2 k kn) : ∀ {rs : List Oper} {i : Nat} {cs : List (Nat × Nat)} {σ : Sx τ} {r : R}, drawK Z fid D pins ops A H nx i rs cs σ k = some r → Ev fun n => drawK Z fid (Dn n) pins ops A H nx i rs cs σ (kn n) = some r
 | [],i,cs,σ,r,h=>hk _ _ _ h
 | o :: rs, i, cs, σ, r, h => by
  simp only[drawK,knowG_eq] at h ⊢
  split at h
  ·rename_i ai hai
   try simp only[hai]
   cases hb:dok o.dst (usl i ai 0 A ops)&&Nat.blt ai (1 <<< i) with
   | false=>rw[hb] at h;cases h
   | true =>
    rw[hb] at h
    simp only[cond_true] at h ⊢
    refine stepK_lim (kn:=fun n c σ'=>bif okC nx A H i ai c cs then drawK Z fid (Dn n) pins ops A H nx (i+1) rs ((i,c)::cs) σ' (kn n) else none) hD (fun c σ' r h'=>?_) h
    cases hc:okC nx A H i ai c cs with
    | false=>rw[hc] at h';cases h'
    | true =>
     rw[hc] at h'
     obtain⟨N,hN⟩:=drawK_lim hD hk h'
     exact⟨N,fun n hn=>by simp only[hc,cond_true];exact hN n hn⟩
  ·cases h
structure LimKt (K:Kt τ R) (Kn:Nat→Kt τ R):Prop where
 k:Lim2 K.k fun n=>(Kn n).k
 ex: ∀ id k,lkA K.ex id=some k→ ∃ kn:Nat→Sx τ→Nat→Option R,(∀ n,lkA (Kn n).ex id=some (kn n))∧Lim2 k kn
theorem LimKt.block {K : Kt τ R} {Kn : Nat → Kt τ R} (h : LimKt K Kn) (id : Nat) : LimKt ⟨K.k, (id, K.k) :: K.ex⟩ fun n => ⟨(Kn n).k, (id, (Kn n).k) :: (Kn n).ex⟩ := ⟨h.k, fun i k hk => by
 simp only[lkA] at hk ⊢
 cases hb:Nat.beq id i with
 | true=>rw[hb] at hk;cases hk;exact⟨fun n=>(Kn n).k,fun n=>rfl,h.k⟩
 | false=>rw[hb] at hk;exact h.ex i k hk⟩
variable {J:Nat→Sx τ→Nat→Option R} {Jn:Nat→Nat→Sx τ→Nat→Option R} {rt:Sx τ→Nat→Option R}
theorem meetK_lim (hJ : ∀ p, Lim2 (J p) fun n => Jn n p) {p : Nat} {σ : Sx τ} {nx : Nat} {k : Sx τ → Nat → Option R} {kn : Nat → Sx τ → Nat → Option R} {r : R} (hk : Lim2 k kn) (h : meetK Z fid J p σ nx k = some r) : Ev fun n => meetK Z fid (Jn n) p σ nx (kn n) = some r := by
 unfold meetK at h ⊢
 cases ha:Z.ann fid p with
 | none=>rw[ha] at h;exact hk _ _ _ h
 | some A =>
  rw[ha] at h
  simp only at h ⊢
  cases hm:meetX A σ nx with
  | none=>rw[hm] at h;cases h
  | some q=>rw[hm] at h;exact hJ p _ _ _ h
theorem loopK_lim (hJ : ∀ p, Lim2 (J p) fun n => Jn n p) {p : Nat} {σ : Sx τ} {nx : Nat} {r : R} (h : loopK Z fid J p σ nx = some r) : Ev fun n => loopK Z fid (Jn n) p σ nx = some r := by
 unfold loopK at h ⊢
 cases ha:Z.ann fid p with
 | none=>rw[ha] at h;cases h
 | some A =>
  rw[ha] at h
  simp only at h ⊢
  cases hm:meetX A σ nx with
  | none=>rw[hm] at h;cases h
  | some q=>rw[hm] at h;exact hJ p _ _ _ h
theorem codeK_lim (hD : ∀ f, Lim (D f) fun n => Dn n f) (hJ : ∀ p, Lim2 (J p) fun n => Jn n p) : ∀ (c : Code) (p : Nat) {K : Kt τ R} {Kn : Nat → Kt τ R}, LimKt K Kn → Lim2 (codeK Z fid D pins J rt c p K) fun n => codeK Z fid (Dn n) pins (Jn n) rt c p (Kn n)
 | .skip,p,K,Kn,hK=>fun σ nx r h=>hK.k σ nx r h
 | .region id ops dr, p, K, Kn, hK => fun σ nx r h => by
  simp only[codeK] at h ⊢
  cases dr with
  | true=>exact drawK_lim hD hK.k h
  | false=>exact rgnK_lim hD hK.k h
 | .seq x y, p, K, Kn, hK => fun σ nx r h => by
  simp only[codeK] at h ⊢
  exact codeK_lim hD hJ x (2*p) (K:=⟨fun σ nx=>meetK Z fid J (2*p+1) σ nx (codeK Z fid D pins J rt y (2*p+1) K),K.ex⟩) (Kn:=fun n=>⟨fun σ nx=>meetK Z fid (Jn n) (2*p+1) σ nx (codeK Z fid (Dn n) pins (Jn n) rt y (2*p+1) (Kn n)),(Kn n).ex⟩) ⟨fun σ nx r h=>meetK_lim hJ (codeK_lim hD hJ y (2*p+1) hK) h,hK.ex⟩ σ nx r h
 | .cond c x y, p, K, Kn, hK => fun σ nx r h => by
  simp only[codeK] at h ⊢
  split at h
  ·rename_i t ht
   try simp only[ht]
   cases t with
   | true=>exact codeK_lim hD hJ x (2*p) hK σ nx r h
   | false=>exact codeK_lim hD hJ y (2*p+1) hK σ nx r h
  ·cases h
 | .block id c, p, K, Kn, hK => fun σ nx r h => by
  simp only[codeK] at h ⊢
  exact codeK_lim hD hJ c (2*p) (hK.block id) σ nx r h
 | .loop _,p,K,Kn,hK=>fun σ nx r h=>loopK_lim hJ h
 | .exit id, p, K, Kn, hK => fun σ nx r h => by
  simp only[codeK] at h ⊢
  cases he:lkA K.ex id with
  | none=>rw[he] at h;cases h
  | some k =>
   rw[he] at h
   obtain⟨kn,h1,h2⟩:=hK.ex id k he
   obtain⟨N,h3⟩:=h2 σ nx r h
   exact ⟨N, fun n hn => by
    show(match lkA (Kn n).ex id with
     | some k=>k σ nx
     | none=>none)=some r
    rw[h1 n];exact h3 n hn⟩
 | .ret,p,K,Kn,hK=>fun σ nx r h=>Ev.all fun n=>h
 | .rangeFunc _ _ _ _,p,K,Kn,hK=>fun σ nx r h=>by cases h
 | .scope _,p,K,Kn,hK=>fun σ nx r h=>by cases h
 | .label _,p,K,Kn,hK=>fun σ nx r h=>by cases h
 | .goto _,p,K,Kn,hK=>fun σ nx r h=>by cases h
 | .refuse _,p,K,Kn,hK=>fun σ nx r h=>by cases h
theorem goTo_lim (hD : ∀ f, Lim (D f) fun n => Dn n f) (hJ : ∀ p, Lim2 (J p) fun n => Jn n p) : ∀ (π : List Bool) (c : Code) (p : Nat) {K : Kt τ R} {Kn : Nat → Kt τ R}, LimKt K Kn → Lim2 (goTo Z fid D pins J rt π c p K) fun n => goTo Z fid (Dn n) pins (Jn n) rt π c p (Kn n)
 | [],c,p,K,Kn,hK=>by simp only[goTo];exact codeK_lim hD hJ c p hK
 | b :: π, .seq x y, p, K, Kn, hK => by
  simp only[goTo]
  cases b with
  | true=>exact goTo_lim hD hJ π y (2*p+1) hK
  | false=>exact goTo_lim hD hJ π x (2*p) (K:=⟨fun σ nx=>meetK Z fid J (2*p+1) σ nx (codeK Z fid D pins J rt y (2*p+1) K),K.ex⟩) (Kn:=fun n=>⟨fun σ nx=>meetK Z fid (Jn n) (2*p+1) σ nx (codeK Z fid (Dn n) pins (Jn n) rt y (2*p+1) (Kn n)),(Kn n).ex⟩) ⟨fun σ nx r h=>meetK_lim hJ (codeK_lim hD hJ y (2*p+1) hK) h,hK.ex⟩
 | b :: π, .cond _ x y, p, K, Kn, hK => by
  simp only[goTo]
  cases b with
  | true=>exact goTo_lim hD hJ π y (2*p+1) hK
  | false=>exact goTo_lim hD hJ π x (2*p) hK
 | _::π,.block id c,p,K,Kn,hK=>by simp only[goTo];exact goTo_lim hD hJ π c (2*p) (hK.block id)
 | _ :: π, .loop c, p, K, Kn, hK => by
  simp only[goTo]
  exact goTo_lim hD hJ π c (2*p) (K:=⟨fun σ nx=>loopK Z fid J (2*p) σ nx,K.ex⟩) (Kn:=fun n=>⟨fun σ nx=>loopK Z fid (Jn n) (2*p) σ nx,(Kn n).ex⟩) ⟨fun σ nx r h=>loopK_lim hJ h,hK.ex⟩
 | _::_,.skip,p,K,Kn,hK=>fun σ nx r h=>by cases h
 | _::_,.region _ _ _,p,K,Kn,hK=>fun σ nx r h=>by cases h
 | _::_,.exit _,p,K,Kn,hK=>fun σ nx r h=>by cases h
 | _::_,.ret,p,K,Kn,hK=>fun σ nx r h=>by cases h
 | _::_,.rangeFunc _ _ _ _,p,K,Kn,hK=>fun σ nx r h=>by cases h
 | _::_,.scope _,p,K,Kn,hK=>fun σ nx r h=>by cases h
 | _::_,.label _,p,K,Kn,hK=>fun σ nx r h=>by cases h
 | _::_,.goto _,p,K,Kn,hK=>fun σ nx r h=>by cases h
 | _::_,.refuse _,p,K,Kn,hK=>fun σ nx r h=>by cases h
end
section
variable {τ:Tab} (Z:Lw τ) (F:Nat→Option Fx)
section
variable {Z F}
variable {D: ∀ f,InT τ (Z.sg f)→Option (OutT τ (Z.sg f))} {Dn:Nat→ ∀ f,InT τ (Z.sg f)→Option (OutT τ (Z.sg f))} {J: ∀ f,Nat→Sx τ→Nat→Option (OutT τ (Z.sg f))} {Jn:Nat→ ∀ f,Nat→Sx τ→Nat→Option (OutT τ (Z.sg f))}
theorem runF_lim (hD : ∀ f, Lim (D f) fun n => Dn n f) (hJ : ∀ f p, Lim2 (J f p) fun n => Jn n f p) (f p : Nat) : Lim2 (runF Z F D J f p) fun n => runF Z F (Dn n) (Jn n) f p := by
 intro σ nx r h
 unfold runF at h ⊢
 cases hF:F f with
 | none=>rw[hF] at h;cases h
 | some X =>
  rw[hF] at h
  exact goTo_lim hD (hJ f) _ _ _ (K:=⟨fun σ _=>retX Z X.rs (Z.sg f) σ,[]⟩) (Kn:=fun _=>⟨fun σ _=>retX Z X.rs (Z.sg f) σ,[]⟩) ⟨fun σ nx r h=>Ev.all fun n=>h,fun id k hk=>by cases hk⟩ σ nx r h
theorem begF_lim (hJ : ∀ f p, Lim2 (J f p) fun n => Jn n f p) (f : Nat) : Lim (begF Z F J f) fun n => begF Z F (Jn n) f := by
 intro x r h
 unfold begF at h ⊢
 cases hx:Z.isx f with
 | true=>rw[hx] at h;exact Ev.all fun _=>by simpa [hx] using h
 | false=>
 rw[hx] at h
 simp only[cond_false] at h
 simp only[hx,cond_false]
 cases hF:F f with
 | none=>rw[hF] at h;cases h
 | some X =>
  rw[hF] at h
  simp only at h ⊢
  generalize canO Z.O Z.ti (ptrs (Z.sg f).ps).length (Z.sg f).ps (List.range (ptrs (Z.sg f).ps).length) x=C at h ⊢
  obtain⟨vs,E,nx⟩:=C
  simp only at h ⊢
  cases hb:Nat.ble vs.length X.n with
  | false=>rw[hb] at h;cases h
  | true=>rw[hb] at h;exact hJ f 1 _ _ _ h
end
theorem run_up: ∀ (n f p:Nat) (σ:Sx τ) (nx:Nat) (y:OutT τ (Z.sg f)),run Z F n f p σ nx=some y→run Z F (n+1) f p σ nx=some y
 | 0,f,p,σ,nx,y,h=>by cases h
 | n + 1, f, p, σ, nx, y, h => by
  have hJ: ∀ f p,Lim2 (run Z F n f p) fun _=>run Z F (n+1) f p:=fun f p σ nx r h=>Ev.all fun _=>run_up n f p σ nx r h
  obtain⟨N,hN⟩:=runF_lim (F:=F) (begF_lim (F:=F) hJ) hJ f p σ nx y h
  exact hN N (Nat.le_refl _)
theorem run_le {n m:Nat} (h:n≤m) {f p:Nat} {σ:Sx τ} {nx:Nat} {y:OutT τ (Z.sg f)} (hy:run Z F n f p σ nx=some y):run Z F m f p σ nx=some y:=by
 induction h with
 | refl=>exact hy
 | step _ ih=>exact run_up Z F _ f p σ nx y ih
open Classical in
noncomputable def Run (f p:Nat) (σ:Sx τ) (nx:Nat):Option (OutT τ (Z.sg f)):=if h: ∃ n,(run Z F n f p σ nx).isSome=true then run Z F (Classical.choose h) f p σ nx else none
theorem Run_lim (f p : Nat) : Lim2 (Run Z F f p) fun n => run Z F n f p := by
 intro σ nx y h
 unfold Run at h
 split at h
 ·exact⟨_,fun n hn=>run_le Z F hn h⟩
 ·cases h
theorem Run_of {n f p:Nat} {σ:Sx τ} {nx:Nat} {y:OutT τ (Z.sg f)} (h:run Z F n f p σ nx=some y):Run Z F f p σ nx=some y:=by
 have hx: ∃ n,(run Z F n f p σ nx).isSome=true:=⟨n,by rw[h];rfl⟩
 unfold Run
 rw[dif_pos hx]
 have hs:=Classical.choose_spec hx
 obtain⟨y',hy'⟩:=Option.isSome_iff_exists.1 hs
 rw[hy']
 rcases Nat.le_total n (Classical.choose hx) with hle | hle
 ·rw[run_le Z F hle h] at hy';rw[←hy']
 ·rw[run_le Z F hle hy'] at h;rw[h]
noncomputable def Den (f:Nat) (x:InT τ (Z.sg f)):Option (OutT τ (Z.sg f)):=begF Z F (fun f p σ nx=>runF Z F (fun g y=>begF Z F (Run Z F) g y) (Run Z F) f p σ nx) f x
theorem Run_eq (f p:Nat) (σ:Sx τ) (nx:Nat):Run Z F f p σ nx=runF Z F (begF Z F (Run Z F)) (Run Z F) f p σ nx:=by
 have key: ∀ y,Run Z F f p σ nx=some y↔runF Z F (begF Z F (Run Z F)) (Run Z F) f p σ nx=some y:=by
  intro y
  constructor
  ·intro h
   obtain⟨N,hN⟩:=Run_lim Z F f p σ nx y h
   have h1:=hN (N+1) (Nat.le_succ _)
   have hJ: ∀ f p,Lim2 (run Z F N f p) fun _=>Run Z F f p:=fun f p σ nx r h=>Ev.all fun _=>Run_of Z F h
   obtain⟨M,hM⟩:=runF_lim (F:=F) (begF_lim (F:=F) hJ) hJ f p σ nx y h1
   exact hM M (Nat.le_refl _)
  ·intro h
   obtain⟨N,hN⟩:=runF_lim (F:=F) (begF_lim (F:=F) (Run_lim Z F)) (Run_lim Z F) f p σ nx y h
   exact Run_of Z F (n:=N+1) (hN N (Nat.le_refl _))
 cases h:Run Z F f p σ nx with
 | some y=>exact((key y).1 h).symm
 | none =>
  cases h':runF Z F (begF Z F (Run Z F)) (Run Z F) f p σ nx with
  | none=>rfl
  | some y=>rw[(key y).2 h'] at h;cases h
theorem Den_beg (f:Nat) (x:InT τ (Z.sg f)):Den Z F f x=begF Z F (Run Z F) f x:=by
 have e:(fun f p σ nx=>runF Z F (fun g y=>begF Z F (Run Z F) g y) (Run Z F) f p σ nx)=Run Z F:=by
  funext f p σ nx
  exact(Run_eq Z F f p σ nx).symm
 unfold Den
 rw[e]
theorem Den_eq (f:Nat) (x:InT τ (Z.sg f)):Den Z F f x=begF Z F (fun f p σ nx=>runF Z F (Den Z F) (Run Z F) f p σ nx) f x:=by
 have e : Den Z F = fun g y => begF Z F (Run Z F) g y := by
  funext f x
  exact Den_beg Z F f x
 rw[e]
 exact(Den_beg Z F f x).symm.trans rfl
theorem Run_eq' (f p:Nat) (σ:Sx τ) (nx:Nat):Run Z F f p σ nx=runF Z F (Den Z F) (Run Z F) f p σ nx:=by
 have e:Den Z F=begF Z F (Run Z F):=by
  funext f x
  exact Den_beg Z F f x
 rw[e]
 exact Run_eq Z F f p σ nx
variable {Z F}
theorem Den_ok {P:Program} (s:Sy P Z.ti Z.zr) (hO:MkFit Z.O) (hF:FOk Z P F) (hC:CallsOk Z P) (hD:DrawsOk Z P) (hXt: ∀ f,Z.isx f=true→Ct Z P f (Z.xt f)) (f:Nat):Ct Z P f (Den Z F f):=by
 have hJ : JOk Z P F (Run Z F) := fun f p σ nx y h => by
  obtain⟨N,hN⟩:=Run_lim Z F f p σ nx y h
  exact run_ok s hO hF hC hD hXt N f p σ nx y (hN N (Nat.le_refl _))
 have:=begF_ok hF hJ hXt f
 have e:Den Z F f=begF Z F (Run Z F) f:=funext fun x=>Den_beg Z F f x
 rw[e]
 exact this
end
end Go.Proofs.YtapfpflmcgfbkaaGreatDoor.Ri

namespace Go.Proofs.YtapfpflmcgfbkaaGreatDoor.Fw
open Go.RowKit
set_option linter.unusedVariables false
def Fk.pull {σ τ:Type} (f:σ→τ):Fk τ→Fk σ
 | .int g=> .int fun x=>g (f x)
 | .byte g=> .byte fun x=>g (f x)
 | .bool g=> .bool fun x=>g (f x)
 | .str g=> .str fun x=>g (f x)
 | .sl β d g=> .sl β d fun x=>g (f x)
theorem RdL_pull {σ τ:Type} (f:σ→τ) {S:Nat→Prop} {w:World} {x:σ}: ∀ {fk:List (Fk τ)} {cs:List Value},RdL S w x (fk.map (Fk.pull f)) cs↔RdL S w (f x) fk cs
 | [],_=>Iff.rfl
 | g :: fs, cs => by
  have key: ∀ v,(Fk.pull f g).rd S w x v↔g.rd S w (f x) v:=fun v=>by cases g<;>exact Iff.rfl
  constructor
  ·rintro ⟨v,r,rfl,h1,h2⟩;exact⟨v,r,rfl,(key v).1 h1,(RdL_pull f).1 h2⟩
  ·rintro ⟨v,r,rfl,h1,h2⟩;exact⟨v,r,rfl,(key v).2 h1,(RdL_pull f).2 h2⟩
theorem OwL_pull {σ τ:Type} (f:σ→τ) {w:World} {x:σ}: ∀ {fk:List (Fk τ)} {cs:List Value} {F:List Nat},OwL w x (fk.map (Fk.pull f)) cs F↔OwL w (f x) fk cs F
 | [],_,_=>Iff.rfl
 | g :: fs, cs, F => by
  have key: ∀ v G,(Fk.pull f g).own w x v G↔g.own w (f x) v G:=fun v G=>by cases g<;>exact Iff.rfl
  constructor
  ·rintro ⟨v,r,G,H,rfl,rfl,h1,h2⟩;exact⟨v,r,G,H,rfl,rfl,(key v G).1 h1,(OwL_pull f).1 h2⟩
  ·rintro ⟨v,r,G,H,rfl,rfl,h1,h2⟩;exact⟨v,r,G,H,rfl,rfl,(key v G).2 h1,(OwL_pull f).2 h2⟩
theorem GdL_pull {σ τ:Type} (f:σ→τ) {x:σ}: ∀ {fk:List (Fk τ)},GdL (f x) fk→GdL x (fk.map (Fk.pull f))
 | [],h=>h
 | g::fs,h=>⟨by cases g<;>exact h.1,GdL_pull f h.2⟩
theorem RdL_app {α:Type} {S:Nat→Prop} {w:World} {x:α}: ∀ {f g:List (Fk α)} {cs:List Value},RdL S w x (f++g) cs ↔ ∃ c d,cs=c++d∧RdL S w x f c∧RdL S w x g d
 | [],g,cs=>⟨fun h=>⟨[],cs,rfl,rfl,h⟩,fun⟨c,d,e,h1,h2⟩=>by cases h1;rw[e];exact h2⟩
 | a :: f, g, cs => by
  constructor
  ·rintro ⟨v,r,rfl,h1,h2⟩
   obtain⟨c,d,rfl,h3,h4⟩:=RdL_app.1 h2
   exact⟨v::c,d,rfl,⟨v,c,rfl,h1,h3⟩,h4⟩
  ·rintro ⟨c,d,rfl,⟨v,r,rfl,h1,h2⟩,h4⟩
   exact⟨v,r++d,rfl,h1,RdL_app.2 ⟨r,d,rfl,h2,h4⟩⟩
theorem OwL_app {α:Type} {w:World} {x:α}: ∀ {f g:List (Fk α)} {cs:List Value} {F:List Nat},OwL w x (f++g) cs F ↔ ∃ c d G H,cs=c++d∧F=G++H∧OwL w x f c G∧OwL w x g d H
 | [],g,cs,F=>⟨fun h=>⟨[],cs,[],F,rfl,rfl,⟨rfl,rfl⟩,h⟩,fun⟨c,d,G,H,e,e2,⟨h1,h1'⟩,h2⟩=>by subst h1;subst h1';rw[e,e2];exact h2⟩
 | a :: f, g, cs, F => by
  constructor
  ·rintro ⟨v,r,G,H,rfl,rfl,h1,h2⟩
   obtain⟨c,d,G',H',rfl,rfl,h3,h4⟩:=OwL_app.1 h2
   exact⟨v::c,d,G++G',H',rfl,by rw[List.append_assoc],⟨v,c,G,G',rfl,rfl,h1,h3⟩,h4⟩
  ·rintro ⟨c,d,G,H,rfl,rfl,⟨v,r,G',H',rfl,rfl,h1,h2⟩,h4⟩
   exact⟨v,r++d,G',H'++H,rfl,by rw[List.append_assoc],h1,OwL_app.2 ⟨r,d,H',H,rfl,rfl,h2,h4⟩⟩
theorem GdL_app {α:Type} {x:α}: ∀ {f g:List (Fk α)},GdL x f→GdL x g→GdL x (f++g)
 | [],_,_,h=>h
 | _::_,_,h,h'=>⟨h.1,GdL_app h.2 h'⟩
instance:Str Bool where
 fk:=[.bool id]
 op h:=⟨_,[],h.1,rfl,rfl⟩
 cl h:=by obtain⟨v,r,rfl,rfl,rfl⟩:=h;exact⟨rfl,trivial⟩
 oop h:=⟨_,[],[],[],h.1.1,by rw[h.2];rfl,⟨rfl,rfl⟩,rfl,rfl⟩
 omk h:=by obtain⟨v,r,G,H,rfl,rfl,⟨rfl,rfl⟩,rfl,rfl⟩:=h;exact⟨⟨rfl,trivial⟩,rfl⟩
 gd h:=⟨trivial,trivial⟩
instance {α β:Type} [Dat α] [Dat β] [Str α] [Str β]:Str (α×β) where
 fk:=(Str.fk (α:=α)).map (Fk.pull Prod.fst)++(Str.fk (α:=β)).map (Fk.pull Prod.snd)
 op h:=by
  obtain⟨c,d,rfl,h1,h2⟩:=h
  exact RdL_app.2 ⟨c,d,rfl,(RdL_pull _).2 (Str.op h1),(RdL_pull _).2 (Str.op h2)⟩
 cl h:=by
  obtain⟨c,d,rfl,h1,h2⟩:=RdL_app.1 h
  exact⟨c,d,rfl,Str.cl ((RdL_pull _).1 h1),Str.cl ((RdL_pull _).1 h2)⟩
 oop h:=by
  obtain⟨c,d,G,H,rfl,rfl,h1,h2⟩:=h
  exact OwL_app.2 ⟨c,d,G,H,rfl,rfl,(OwL_pull _).2 (Str.oop h1),(OwL_pull _).2 (Str.oop h2)⟩
 omk h:=by
  obtain⟨c,d,G,H,rfl,rfl,h1,h2⟩:=OwL_app.1 h
  exact⟨c,d,G,H,rfl,rfl,Str.omk ((OwL_pull _).1 h1),Str.omk ((OwL_pull _).1 h2)⟩
 gd h:=GdL_app (GdL_pull Prod.fst (Str.gd h.1)) (GdL_pull Prod.snd (Str.gd h.2))
theorem pull_op {σ τ:Type} [d:Dat τ] [s:Str τ] (f:σ→τ) {S:Nat→Prop} {w:World} {cs:List Value} {x:σ} (h:@Dat.rd σ (Dat.pull f) S w cs x):RdL S w x (s.fk.map (Fk.pull f)) cs:=(RdL_pull f).2 (s.op h)
theorem pull_cl {σ τ:Type} [d:Dat τ] [s:Str τ] (f:σ→τ) {S:Nat→Prop} {w:World} {cs:List Value} {x:σ} (h:RdL S w x (s.fk.map (Fk.pull f)) cs):@Dat.rd σ (Dat.pull f) S w cs x:=s.cl ((RdL_pull f).1 h)
theorem pull_oop {σ τ:Type} [d:Dat τ] [s:Str τ] (f:σ→τ) {w:World} {cs:List Value} {x:σ} {F:List Nat} (h:@Dat.own σ (Dat.pull f) w cs x F):OwL w x (s.fk.map (Fk.pull f)) cs F:=(OwL_pull f).2 (s.oop h)
theorem pull_omk {σ τ:Type} [d:Dat τ] [s:Str τ] (f:σ→τ) {w:World} {cs:List Value} {x:σ} {F:List Nat} (h:OwL w x (s.fk.map (Fk.pull f)) cs F):@Dat.own σ (Dat.pull f) w cs x F:=s.omk ((OwL_pull f).1 h)
theorem pull_gd {σ τ:Type} [d:Dat τ] [s:Str τ] (f:σ→τ) {x:σ} (h:@Dat.good σ (Dat.pull f) x):GdL x (s.fk.map (Fk.pull f)):=GdL_pull f (s.gd h)
instance:Str Cell where
 fk:=[.str (fun x=>x.Key),.str (fun x=>x.Val)]
 op h:=pull_op (fun x:Cell=>(x.Key,x.Val)) h
 cl h:=pull_cl (fun x:Cell=>(x.Key,x.Val)) h
 oop h:=pull_oop (fun x:Cell=>(x.Key,x.Val)) h
 omk h:=pull_omk (fun x:Cell=>(x.Key,x.Val)) h
 gd h:=pull_gd (fun x:Cell=>(x.Key,x.Val)) h
instance:Str Touch where
 fk:=[.sl ByteArray instDatByteArray (fun x=>x.Reads),.sl ByteArray instDatByteArray (fun x=>x.Writes)]
 op h:=pull_op (fun x:Touch=>(x.Reads,x.Writes)) h
 cl h:=pull_cl (fun x:Touch=>(x.Reads,x.Writes)) h
 oop h:=pull_oop (fun x:Touch=>(x.Reads,x.Writes)) h
 omk h:=pull_omk (fun x:Touch=>(x.Reads,x.Writes)) h
 gd h:=pull_gd (fun x:Touch=>(x.Reads,x.Writes)) h
instance:Str Mach where
 fk:=[.sl Cell instDatCell (fun x=>x.Store),.sl ByteArray instDatByteArray (fun x=>x.Touch.Reads),.sl ByteArray instDatByteArray (fun x=>x.Touch.Writes)]
 op h:=pull_op (fun x:Mach=>(x.Store,x.Touch)) h
 cl h:=pull_cl (fun x:Mach=>(x.Store,x.Touch)) h
 oop h:=pull_oop (fun x:Mach=>(x.Store,x.Touch)) h
 omk h:=pull_omk (fun x:Mach=>(x.Store,x.Touch)) h
 gd h:=pull_gd (fun x:Mach=>(x.Store,x.Touch)) h
instance:Str Call where
 fk:=[.int (fun x=>x.Kind),.str (fun x=>x.Name),.str (fun x=>x.To),.int (fun x=>x.A),.int (fun x=>x.B),.str (fun x=>x.Text)]
 op h:=pull_op (fun x:Call=>(x.Kind,x.Name,x.To,x.A,x.B,x.Text)) h
 cl h:=pull_cl (fun x:Call=>(x.Kind,x.Name,x.To,x.A,x.B,x.Text)) h
 oop h:=pull_oop (fun x:Call=>(x.Kind,x.Name,x.To,x.A,x.B,x.Text)) h
 omk h:=pull_omk (fun x:Call=>(x.Kind,x.Name,x.To,x.A,x.B,x.Text)) h
 gd h:=pull_gd (fun x:Call=>(x.Kind,x.Name,x.To,x.A,x.B,x.Text)) h
instance:Str Answer where
 fk:=[.int (fun x=>x.Code),.int (fun x=>x.N),.str (fun x=>x.Text)]
 op h:=pull_op (fun x:Answer=>(x.Code,x.N,x.Text)) h
 cl h:=pull_cl (fun x:Answer=>(x.Code,x.N,x.Text)) h
 oop h:=pull_oop (fun x:Answer=>(x.Code,x.N,x.Text)) h
 omk h:=pull_omk (fun x:Answer=>(x.Code,x.N,x.Text)) h
 gd h:=pull_gd (fun x:Answer=>(x.Code,x.N,x.Text)) h
instance:Str Step where
 fk:=[.int (fun x=>x.Proc),.int (fun x=>x.Call.Kind),.str (fun x=>x.Call.Name),.str (fun x=>x.Call.To),.int (fun x=>x.Call.A),.int (fun x=>x.Call.B),.str (fun x=>x.Call.Text)]
 op h:=pull_op (fun x:Step=>(x.Proc,x.Call)) h
 cl h:=pull_cl (fun x:Step=>(x.Proc,x.Call)) h
 oop h:=pull_oop (fun x:Step=>(x.Proc,x.Call)) h
 omk h:=pull_omk (fun x:Step=>(x.Proc,x.Call)) h
 gd h:=pull_gd (fun x:Step=>(x.Proc,x.Call)) h
instance:Str Tx where
 fk:=[.int (fun x=>x.Id),.int (fun x=>x.Age),.int (fun x=>x.Proc),.int (fun x=>x.Began),.sl Call instDatCall (fun x=>x.Calls),.sl Answer instDatAnswer (fun x=>x.Answers),.sl ByteArray instDatByteArray (fun x=>x.Touch.Reads),.sl ByteArray instDatByteArray (fun x=>x.Touch.Writes),.sl Int instDatInt (fun x=>x.Marks),.int (fun x=>x.State)]
 op h:=pull_op (fun x:Tx=>(x.Id,x.Age,x.Proc,x.Began,x.Calls,x.Answers,x.Touch,x.Marks,x.State)) h
 cl h:=pull_cl (fun x:Tx=>(x.Id,x.Age,x.Proc,x.Began,x.Calls,x.Answers,x.Touch,x.Marks,x.State)) h
 oop h:=pull_oop (fun x:Tx=>(x.Id,x.Age,x.Proc,x.Began,x.Calls,x.Answers,x.Touch,x.Marks,x.State)) h
 omk h:=pull_omk (fun x:Tx=>(x.Id,x.Age,x.Proc,x.Began,x.Calls,x.Answers,x.Touch,x.Marks,x.State)) h
 gd h:=pull_gd (fun x:Tx=>(x.Id,x.Age,x.Proc,x.Began,x.Calls,x.Answers,x.Touch,x.Marks,x.State)) h
instance:Str Journal where
 fk:=[.str (fun x=>x.Text),.int (fun x=>x.Sure)]
 op h:=pull_op (fun x:Journal=>(x.Text,x.Sure)) h
 cl h:=pull_cl (fun x:Journal=>(x.Text,x.Sure)) h
 oop h:=pull_oop (fun x:Journal=>(x.Text,x.Sure)) h
 omk h:=pull_omk (fun x:Journal=>(x.Text,x.Sure)) h
 gd h:=pull_gd (fun x:Journal=>(x.Text,x.Sure)) h
instance:Str Slot where
 fk:=[.int (fun x=>x.Seq),.sl Cell instDatCell (fun x=>x.Cells),.bool (fun x=>x.Whole)]
 op h:=pull_op (fun x:Slot=>(x.Seq,x.Cells,x.Whole)) h
 cl h:=pull_cl (fun x:Slot=>(x.Seq,x.Cells,x.Whole)) h
 oop h:=pull_oop (fun x:Slot=>(x.Seq,x.Cells,x.Whole)) h
 omk h:=pull_omk (fun x:Slot=>(x.Seq,x.Cells,x.Whole)) h
 gd h:=pull_gd (fun x:Slot=>(x.Seq,x.Cells,x.Whole)) h
instance:Str Disk where
 fk:=[.sl Slot instDatSlot (fun x=>x.Slots),.str (fun x=>x.Journal.Text),.int (fun x=>x.Journal.Sure)]
 op h:=pull_op (fun x:Disk=>(x.Slots,x.Journal)) h
 cl h:=pull_cl (fun x:Disk=>(x.Slots,x.Journal)) h
 oop h:=pull_oop (fun x:Disk=>(x.Slots,x.Journal)) h
 omk h:=pull_omk (fun x:Disk=>(x.Slots,x.Journal)) h
 gd h:=pull_gd (fun x:Disk=>(x.Slots,x.Journal)) h
instance:Str Entry where
 fk:=[.int (fun x=>x.Seq),.int (fun x=>x.Kind),.int (fun x=>x.Tx),.sl Step instDatStep (fun x=>x.Steps),.sl Answer instDatAnswer (fun x=>x.Answers),.int (fun x=>x.Began),.int (fun x=>x.Ended),.bool (fun x=>x.Laid)]
 op h:=pull_op (fun x:Entry=>(x.Seq,x.Kind,x.Tx,x.Steps,x.Answers,x.Began,x.Ended,x.Laid)) h
 cl h:=pull_cl (fun x:Entry=>(x.Seq,x.Kind,x.Tx,x.Steps,x.Answers,x.Began,x.Ended,x.Laid)) h
 oop h:=pull_oop (fun x:Entry=>(x.Seq,x.Kind,x.Tx,x.Steps,x.Answers,x.Began,x.Ended,x.Laid)) h
 omk h:=pull_omk (fun x:Entry=>(x.Seq,x.Kind,x.Tx,x.Steps,x.Answers,x.Began,x.Ended,x.Laid)) h
 gd h:=pull_gd (fun x:Entry=>(x.Seq,x.Kind,x.Tx,x.Steps,x.Answers,x.Began,x.Ended,x.Laid)) h
instance:Str Kernel where
 fk:=[.sl Cell instDatCell (fun x=>x.Store),.sl Tx instDatTx (fun x=>x.Txs),.sl Slot instDatSlot (fun x=>x.Disk.Slots),.str (fun x=>x.Disk.Journal.Text),.int (fun x=>x.Disk.Journal.Sure),.int (fun x=>x.Seq),.int (fun x=>x.Next),.int (fun x=>x.Time),.sl Entry instDatEntry (fun x=>x.History),.sl ByteArray instDatByteArray (fun x=>x.Seen),.bool (fun x=>x.Room)]
 op h:=pull_op (fun x:Kernel=>(x.Store,x.Txs,x.Disk,x.Seq,x.Next,x.Time,x.History,x.Seen,x.Room)) h
 cl h:=pull_cl (fun x:Kernel=>(x.Store,x.Txs,x.Disk,x.Seq,x.Next,x.Time,x.History,x.Seen,x.Room)) h
 oop h:=pull_oop (fun x:Kernel=>(x.Store,x.Txs,x.Disk,x.Seq,x.Next,x.Time,x.History,x.Seen,x.Room)) h
 omk h:=pull_omk (fun x:Kernel=>(x.Store,x.Txs,x.Disk,x.Seq,x.Next,x.Time,x.History,x.Seen,x.Room)) h
 gd h:=pull_gd (fun x:Kernel=>(x.Store,x.Txs,x.Disk,x.Seq,x.Next,x.Time,x.History,x.Seen,x.Room)) h
instance:Str Deed where
 fk:=[.int (fun x=>x.Kind),.int (fun x=>x.N),.int (fun x=>x.M),.int (fun x=>x.Call.Kind),.str (fun x=>x.Call.Name),.str (fun x=>x.Call.To),.int (fun x=>x.Call.A),.int (fun x=>x.Call.B),.str (fun x=>x.Call.Text)]
 op h:=pull_op (fun x:Deed=>(x.Kind,x.N,x.M,x.Call)) h
 cl h:=pull_cl (fun x:Deed=>(x.Kind,x.N,x.M,x.Call)) h
 oop h:=pull_oop (fun x:Deed=>(x.Kind,x.N,x.M,x.Call)) h
 omk h:=pull_omk (fun x:Deed=>(x.Kind,x.N,x.M,x.Call)) h
 gd h:=pull_gd (fun x:Deed=>(x.Kind,x.N,x.M,x.Call)) h
end Go.Proofs.YtapfpflmcgfbkaaGreatDoor.Fw

namespace Go.Proofs.YtapfpflmcgfbkaaGreatDoor.Ri
open Go.Proofs.YtapfpflmcgfbkaaGreatDoor.Fw
open Go.RowKit
set_option linter.unusedVariables false
set_option linter.unusedSimpArgs false
inductive Fc where
 | int
 | byte
 | bool
 | str
 | sl (e:Nat)
section
variable (τ:Tab)
def Fc.T:Fc→Type
 | .int=>Int
 | .byte=>UInt8
 | .bool=>Bool
 | .str=>ByteArray
 | .sl e=>List (τ.T e)
def HF:List Fc→Type
 | []=>Unit
 | f::fs=>f.T τ×HF fs
end
section
variable {τ:Tab} {S:Nat→Prop} {w:World}
def Fc.rd (S:Nat→Prop) (w:World) (v:Value):(f:Fc)→f.T τ→Prop
 | .int,n=>v= .int .i64 n∧I64 n
 | .byte,n=>v= .int .u8 (UInt8.toNat n:Nat)
 | .bool,b=>v= .bool b
 | .str,s=>v= .string s∧s.size≤maxLen
 | .sl e,xs=>SlR S w v xs
def RdF (S:Nat→Prop) (w:World):(fs:List Fc)→HF τ fs→List Value→Prop
 | [],_,us=>us=[]
 | f::fs,(x,h),us=> ∃ v r,us=v::r∧Fc.rd S w v f x∧RdF S w fs h r
def Fc.cl:(f:Fc)→f.T τ→Cl τ
 | .int,n=> .v (.int .i64 n)
 | .byte,n=> .v (.int .u8 (UInt8.toNat n:Nat))
 | .bool,b=> .v (.bool b)
 | .str,s=> .v (.string s)
 | .sl e,xs=> .sl e xs
def clF:(fs:List Fc)→HF τ fs→List (Cl τ)
 | [],_=>[]
 | f::fs,(x,h)=>f.cl x::clF fs h
def ofInt:Cl τ→Option Int
 | .v (.int .i64 n)=>some n
 | _=>none
def ofBool:Cl τ→Option Bool
 | .v (.bool b)=>some b
 | _=>none
def ofStr:Cl τ→Option ByteArray
 | .v (.string s)=>some s
 | _=>none
def u8of (n:Int):UInt8:=UInt8.ofNat n.toNat
def ofByte:Cl τ→Option UInt8
 | .v (.int .u8 n)=>some (u8of n)
 | _=>none
def isNil:Value→Bool
 | .slice none n m=>Nat.ble n 0&&Nat.ble m 0
 | _=>false
def ofSl (e:Nat):Cl τ→Option (List (τ.T e))
 | .sl e' xs=>castL e' e xs
 | .v x=>bif isNil x then some [] else none
def Fc.of (f:Fc) (c:Cl τ):Option (f.T τ):=match f with
 | .int=>ofInt c
 | .byte=>ofByte c
 | .bool=>ofBool c
 | .str=>ofStr c
 | .sl e=>ofSl e c
theorem isNil_ok {x:Value} (h:isNil x=true):x= .slice none 0 0:=by
 cases x with
 | slice A n m =>
  cases A with
  | some A=>cases h
  | none =>
   simp only[isNil,Bool.and_eq_true] at h
   rw[Nat.eq_zero_of_le_zero (Nat.le_of_ble_eq_true h.1),Nat.eq_zero_of_le_zero (Nat.le_of_ble_eq_true h.2)]
 | _=>cases h
def mkF:(fs:List Fc)→List (Cl τ)→Option (HF τ fs)
 | [],[]=>some ()
 | f :: fs, c :: cs => match f.of c, mkF fs cs with
  | some x,some h=>some (x,h)
  | _,_=>none
 | _,_=>none
theorem clF_op: ∀ {fs:List Fc} {h:HF τ fs} {us:List Value},RdF S w fs h us→RdC S w us (clF fs h)
 | [],_,us,h=>h
 | f :: fs, (x, h), us, ⟨v, r, h1, h2, h3⟩ => ⟨v, r, h1, by
  cases f with
  | int=>obtain⟨rfl,hg⟩:=h2;exact⟨rfl,wrap_id (by unfold I64 at hg;simp[loK,hiK,IntKind.signed,IntKind.bits];omega),rfl⟩
  | byte=>exact⟨h2,wrap_id (by have:=UInt8.toNat_lt x;simp[loK,hiK,IntKind.signed,IntKind.bits];omega),rfl⟩
  | bool=>exact⟨h2,trivial,rfl⟩
  | str=>obtain⟨rfl,hg⟩:=h2;exact⟨rfl,hg,rfl⟩
  | sl e=>exact h2,clF_op h3⟩
def Fc.flat:Fc→Bool
 | .sl _=>false
 | _=>true
theorem RdF.swap {S':Nat→Prop} {w':World}: ∀ {fs:List Fc} {h:HF τ fs} {us:List Value},fs.all Fc.flat=true→RdF S w fs h us→RdF S' w' fs h us
 | [],_,us,_,h=>h
 | f :: fs, (x, h), us, ha, ⟨v, r, h1, h2, h3⟩ => by
  simp only[List.all_cons,Bool.and_eq_true] at ha
  exact⟨v,r,h1,(by cases f<;>first | exact h2 | (simp[Fc.flat] at ha)),RdF.swap ha.2 h3⟩
theorem ofInt_ok {c:Cl τ} {x:Int} (h:ofInt c=some x):c= .v (.int .i64 x):=by
 unfold ofInt at h
 split at h
 ·cases h;rfl
 ·cases h
theorem ofBool_ok {c:Cl τ} {x:Bool} (h:ofBool c=some x):c= .v (.bool x):=by
 unfold ofBool at h
 split at h
 ·cases h;rfl
 ·cases h
theorem ofStr_ok {c:Cl τ} {x:ByteArray} (h:ofStr c=some x):c= .v (.string x):=by
 unfold ofStr at h
 split at h
 ·cases h;rfl
 ·cases h
theorem u8of_ok {n:Int} (h:IntKind.u8.wrap n=n):((u8of n).toNat:Int)=n:=by
 have:=good_in h
 simp[loK,hiK,IntKind.signed,IntKind.bits] at this
 unfold u8of
 rw[UInt8.toNat_ofNat']
 omega
theorem ofByte_ok {c:Cl τ} {x:UInt8} (h:ofByte c=some x): ∃ n,c= .v (.int .u8 n)∧x=u8of n:=by
 unfold ofByte at h
 split at h
 ·rename_i n;cases h;exact⟨n,rfl,rfl⟩
 ·cases h
theorem Fc.of_ok {f:Fc} {c:Cl τ} {x:f.T τ} (h:f.of c=some x):Fit1 c (f.cl x)∧ ∀ {S:Nat→Prop} {w:World} {v:Value},c.rd S w v→Fc.rd S w v f x:=by
 cases f with
 | int =>
  obtain rfl:=ofInt_ok h
  refine⟨⟨fun _=>rfl,fun A n m e=>(by cases e)⟩,fun {S w v} hv=>⟨hv.1,?_⟩⟩
  have:=good_in (k:= .i64) (n:=x) hv.2.1
  unfold I64;simp[loK,hiK,IntKind.signed,IntKind.bits] at this;omega
 | byte =>
  obtain⟨n,rfl,rfl⟩:=ofByte_ok h
  exact ⟨⟨fun hg => by rw [u8of_ok hg], fun A n m e => (by cases e)⟩, fun {S w v} hv => by
   show v=_
   rw[u8of_ok hv.2.1]
   exact hv.1⟩
 | bool =>
  obtain rfl:=ofBool_ok h
  exact⟨⟨fun _=>rfl,fun A n m e=>(by cases e)⟩,fun {S w v} hv=>hv.1⟩
 | str =>
  obtain rfl:=ofStr_ok h
  exact⟨⟨fun _=>rfl,fun A n m e=>(by cases e)⟩,fun {S w v} hv=>⟨hv.1,hv.2.1⟩⟩
 | sl e =>
  cases c with
  | sl e' xs =>
   obtain⟨rfl,hh⟩:=castL_ok (show castL e' e xs=some x from h)
   cases hh
   exact⟨rfl,fun {S w v} hv=>hv⟩
  | v y =>
   have h':(bif isNil y then some [] else none)=some x:=h
   cases hb:isNil y with
   | false=>rw[hb] at h';cases h'
   | true =>
    rw[hb] at h'
    obtain rfl:[]=x:=Option.some.inj h'
    obtain rfl:=isNil_ok hb
    refine⟨⟨rfl,rfl,rfl,rfl⟩,fun {S w v} hv=>?_⟩
    show SlR S w v []
    rw[hv.1]
    exact SlR.nil rfl rfl
theorem mkF_ok: ∀ {fs:List Fc} {cs:List (Cl τ)} {h:HF τ fs},mkF fs cs=some h→Fit cs (clF fs h)∧ ∀ {S:Nat→Prop} {w:World} {us:List Value},RdC S w us cs→RdF S w fs h us
 | [],[],_,hm=>by cases hm;exact⟨trivial,fun {S w us} h=>h⟩
 | [],_::_,_,hm=>by cases hm
 | _::_,[],_,hm=>by cases hm
 | f :: fs, c :: cs, (x, h), hm => by
  simp only[mkF] at hm
  split at hm
  ·rename_i x' h' e1 e2
   cases hm
   obtain⟨k1,k2⟩:=Fc.of_ok e1
   obtain⟨k3,k4⟩:=mkF_ok e2
   exact⟨⟨k1,k3⟩,fun {S w us} ⟨v,r,q1,q2,q3⟩=>⟨v,r,q1,k2 q2,k4 q3⟩⟩
  ·cases hm
end
def cap1 {τ:Tab} (t:Nat) (x:τ.T t):List (Σ e,τ.T e):=[⟨t,x⟩]
def uncap1 {τ:Tab} (t:Nat):List (Σ e,τ.T e)→Option (τ.T t)
 | [⟨e,y⟩]=>castE e t y
 | _=>none
theorem cap1_ok {τ:Tab} {t:Nat} {l:List (Σ e,τ.T e)} {x:τ.T t} (h:uncap1 t l=some x):cap1 t x=l:=by
 unfold uncap1 at h
 split at h
 ·rename_i e y
  unfold castE at h
  split at h
  ·rename_i he;subst he;cases h;rfl
  ·cases h
 ·cases h
structure TyO (τ:Tab) (t:Nat) where
 fs:List Fc
 tu:τ.T t→HF τ fs
 of:HF τ fs→τ.T t
 back: ∀ h,tu (of h)=h
 op: ∀ {S:Nat→Prop} {w:World} {us:List Value} {x:τ.T t},Dat.rd S w us x→RdF S w fs (tu x) us
 cl: ∀ {S:Nat→Prop} {w:World} {us:List Value} {x:τ.T t},RdF S w fs (tu x) us→Dat.rd S w us x
 bt:Option ((τ.T t→UInt8)×(UInt8→τ.T t)):=none
 bl: ∀ p,bt=some p→Dat.sz (τ.T t)=1∧(∀ (S:Nat→Prop) (w:World) (us:List Value) (x:τ.T t),Dat.rd S w us x→us=[.int .u8 ((p.1 x).toNat:Nat)])∧ ∀ (S:Nat→Prop) (w:World) (x:UInt8),Dat.rd S w [.int .u8 (x.toNat:Nat)] (p.2 x):=by intro p h;cases h
 cap:τ.T t→List (Σ e,τ.T e):=cap1 t
 uncap:List (Σ e,τ.T e)→Option (τ.T t):=uncap1 t
 capok: ∀ l x,uncap l=some x→cap x=l:=by exact fun l x h=>cap1_ok h
def TyO.byt {τ:Tab} {t:Nat} (o:TyO τ t):Bool:=match o.bt with
 | some _=>true
 | none=>false
def TyO.toB {τ:Tab} {t:Nat} (o:TyO τ t) (x:τ.T t):UInt8:=match o.bt with
 | some p=>p.1 x
 | none=>0
def TyO.ofB {τ:Tab} {t:Nat} (o:TyO τ t) (x:UInt8):τ.T t:=match o.bt with
 | some p=>p.2 x
 | none=>default
theorem TyO.byt_ok {τ:Tab} {t:Nat} (o:TyO τ t) (h:o.byt=true): ∃ p,o.bt=some p∧(∀ x,o.toB x=p.1 x)∧ ∀ x,o.ofB x=p.2 x:=by
 unfold TyO.byt at h
 split at h
 ·rename_i p hp
  refine⟨p,hp,fun x=>?_,fun x=>?_⟩
  ·unfold TyO.toB;rw[hp]
  ·unfold TyO.ofB;rw[hp]
 ·cases h
def TyO.fld {τ:Tab} {t:Nat} (o:TyO τ t) (x:τ.T t):List (Cl τ):=clF o.fs (o.tu x)
def TyO.mk' {τ:Tab} {t:Nat} (o:TyO τ t) (l:List (Cl τ)):Option (τ.T t):=match mkF o.fs l with
 | some h=>some (o.of h)
 | none=>none
theorem TyO.mk_ok {τ:Tab} {t:Nat} {o:TyO τ t} {l:List (Cl τ)} {x:τ.T t} (h:o.mk' l=some x):Fit l (o.fld x)∧ ∀ {S:Nat→Prop} {w:World} {us:List Value},RdC S w us l→Dat.rd S w us x:=by
 unfold TyO.mk' at h
 split at h
 ·rename_i y hy
  cases h
  obtain⟨h1,h2⟩:=mkF_ok hy
  unfold TyO.fld
  rw[o.back]
  exact⟨h1,fun {S w us} hr=>o.cl (by rw[o.back];exact h2 hr)⟩
 ·cases h
def lkO {τ:Tab}:(L:List (Σ t,TyO τ t))→(t:Nat)→((∀ x∈L,x.1≠t)→TyO τ t)→TyO τ t
 | [],t,m=>m (fun x hx=>by cases hx)
 | ⟨k, o⟩ :: r, t, m => if h : k = t then h ▸ o else lkO r t fun hr => m fun x hx => by
  rcases List.mem_cons.1 hx with rfl | hx
  ·exact h
  ·exact hr x hx
def opnOf {τ : Tab} (o : ∀ t, TyO τ t) : Opn τ := ⟨fun t => (o t).fld, fun t => (o t).mk', fun t x h => clF_op ((o t).op h), fun t l x h hr => (TyO.mk_ok h).2 hr, fun t => (o t).fs.all Fc.flat, fun t x h hr => (o t).cl (RdF.swap h ((o t).op hr)), fun t => (o t).byt, fun t => (o t).toB, fun t => (o t).ofB, fun t h => by
 obtain⟨p,h1,_,_⟩:=(o t).byt_ok h
 exact((o t).bl p h1).1,fun {S w us} t x h hr=>by
 obtain⟨p,h1,h2,_⟩:=(o t).byt_ok h
 rw[h2]
 exact((o t).bl p h1).2.1 S w us x hr,fun {S w} t x h=>by
 obtain⟨p,h1,_,h3⟩:=(o t).byt_ok h
 rw[h3]
 exact((o t).bl p h1).2.2 S w x,fun t=>(o t).cap,fun t=>(o t).uncap,fun t=>(o t).capok⟩
theorem opnOf_fit {τ:Tab} (o: ∀ t,TyO τ t):MkFit (opnOf o):=fun t l x h=>(TyO.mk_ok h).1
structure Ty where
 T:Type
 d:Dat T
 i:Inhabited T
def lkTy:List (Nat×Ty)→Nat→Ty
 | [],_=>⟨Int,inferInstance,inferInstance⟩
 | (k,x)::r,t=>bif Nat.beq k t then x else lkTy r t
theorem lkTy_miss: ∀ {L:List (Nat×Ty)} {t:Nat},(∀ k∈L.map (·.1),k≠t)→lkTy L t=⟨Int,inferInstance,inferInstance⟩
 | [],_,_=>rfl
 | (k, x) :: r, t, h => by
  simp only[lkTy]
  rw[beq_f (h k (by simp))]
  exact lkTy_miss fun k' hk'=>h k' (by simp at hk' ⊢;exact .inr hk')
def tabOf (L:List (Nat×Ty)):Tab:=⟨fun t=>(lkTy L t).T,fun t=>(lkTy L t).d,fun t=>(lkTy L t).i⟩
def castT {b:Ty} (e:b=⟨Int,inferInstance,inferInstance⟩) (x:b.T):Int:=cast (congrArg Ty.T e) x
def castU {b:Ty} (e:b=⟨Int,inferInstance,inferInstance⟩) (x:Int):b.T:=cast (congrArg Ty.T e).symm x
theorem castTU {b:Ty} (e:b=⟨Int,inferInstance,inferInstance⟩) (x:Int):castT e (castU e x)=x:=by subst e;rfl
theorem castT_rd {b:Ty} (e:b=⟨Int,inferInstance,inferInstance⟩) {S:Nat→Prop} {w:World} {us:List Value} {x:b.T}:@Dat.rd b.T b.d S w us x↔Dat.rd S w us (castT e x):=by subst e;exact Iff.rfl
def tyMiss {L:List (Nat×Ty)} {t:Nat} (e:lkTy L t=⟨Int,inferInstance,inferInstance⟩):TyO (tabOf L) t where
 fs:=[.int]
 tu:=fun x=>(castT e x,())
 of:=fun h=>castU e h.1
 back h:=by
  obtain⟨x,u⟩:=h
  exact congrArg (fun y:Int=>((y,()):Int×Unit)) (castTU e x)
 op {S w us x} h:=by
  have:=(castT_rd e).1 h
  exact Str.op (α:=Int) this
 cl {S w us x} h:=(castT_rd e).2 (Str.cl (α:=Int) h)
end Go.Proofs.YtapfpflmcgfbkaaGreatDoor.Ri

namespace Go.Proofs.YtapfpflmcgfbkaaGreatDoor.Fw
open Go.RowKit
set_option linter.unusedVariables false
set_option maxRecDepth 100000
def lkT:List (Nat×TI)→Nat→TI
 | [],_=> .no
 | (k,i)::r,t=>bif Nat.beq k t then i else lkT r t
theorem lkT_ok {P:Program}: ∀ {l:List (Nat×TI)},(l.all fun p=>p.2.chk P p.1)=true→ ∀ t,(lkT l t).chk P t=true
 | [],_,_=>rfl
 | (k, i) :: r, h, t => by
  simp only[List.all_cons,Bool.and_eq_true] at h
  simp only[lkT]
  cases e:Nat.beq k t with
  | true=>obtain rfl:=Nat.eq_of_beq_eq_true e;exact h.1
  | false=>exact lkT_ok h.2 t
def lkZ:List (Nat×Value)→Nat→Option Value
 | [],_=>none
 | (k,i)::r,t=>bif Nat.beq k t then some i else lkZ r t
def ZOk (P:Program):List (Nat×Value)→Prop
 | []=>True
 | p::r=>(∀ w,(zeroValue p.1).run P w= .ok p.2 w)∧ZOk P r
theorem lkZ_ok {P:Program}: ∀ {l:List (Nat×Value)},ZOk P l→ ∀ t z,lkZ l t=some z→ ∀ w,(zeroValue t).run P w= .ok z w
 | [],_,_,_,h=>by cases h
 | (k, i) :: r, h, t, z, hz => by
  simp only[lkZ] at hz
  cases e:Nat.beq k t with
  | true=>obtain rfl:=Nat.eq_of_beq_eq_true e;rw[e] at hz;cases hz;exact h.1
  | false=>rw[e] at hz;exact lkZ_ok h.2 t z hz
def tiL:List (Nat×TI):=[(3,.int .i64),
 (4,.bool),
 (5,.int .u8),
 (9,.str),
 (22,.sl 66 2 32),
 (23,.sl 74 10 160),
 (24,.sl 120 3 40),
 (26,.st 2 [(0,1),(1,1)]),
 (28,.st 3 [(0,1),(1,2)]),
 (29,.sl 80 8 96),
 (30,.sl 9 1 16),
 (32,.st 11 [(0,1),(1,1),(2,3),(5,1),(6,1),(7,1),(8,1),(9,1),(10,1)]),
 (35,.sl 97 2 32),
 (36,.sl 88 10 160),
 (37,.sl 144 3 40),
 (38,.st 2 [(0,1),(1,1)]),
 (40,.st 3 [(0,1),(1,2)]),
 (41,.sl 96 8 96),
 (43,.st 11 [(0,1),(1,1),(2,3),(5,1),(6,1),(7,1),(8,1),(9,1),(10,1)]),
 (66,.st 2 [(0,1),(1,1)]),
 (68,.sl 160 6 72),
 (69,.sl 162 3 32),
 (71,.st 2 [(0,1),(1,1)]),
 (72,.sl 3 1 8),
 (74,.st 10 [(0,1),(1,1),(2,1),(3,1),(4,1),(5,1),(6,2),(8,1),(9,1)]),
 (78,.sl 165 7 80),
 (80,.st 8 [(0,1),(1,1),(2,1),(3,1),(4,1),(5,1),(6,1),(7,1)]),
 (84,.sl 136 6 72),
 (85,.sl 108 3 32),
 (86,.st 2 [(0,1),(1,1)]),
 (88,.st 10 [(0,1),(1,1),(2,1),(3,1),(4,1),(5,1),(6,2),(8,1),(9,1)]),
 (93,.sl 138 7 80),
 (96,.st 8 [(0,1),(1,1),(2,1),(3,1),(4,1),(5,1),(6,1),(7,1)]),
 (97,.st 2 [(0,1),(1,1)]),
 (108,.st 3 [(0,1),(1,1),(2,1)]),
 (120,.st 3 [(0,1),(1,1),(2,1)]),
 (136,.st 6 [(0,1),(1,1),(2,1),(3,1),(4,1),(5,1)]),
 (138,.st 7 [(0,1),(1,6)]),
 (144,.st 3 [(0,1),(1,1),(2,1)]),
 (151,.one),
 (152,.one),
 (160,.st 6 [(0,1),(1,1),(2,1),(3,1),(4,1),(5,1)]),
 (162,.st 3 [(0,1),(1,1),(2,1)]),
 (165,.st 7 [(0,1),(1,6)]),
 (167,.one),
 (174,.sl 5 1 1),
 (197,.st 2 [(0,1),(1,1)]),
 (215,.one),
 (219,.st 3 [(0,1),(1,2)]),
 (229,.one)]
def ti (t:Nat):TI:=lkT tiL t
theorem tiok: ∀ t,(ti t).chk Tryz.prog t=true:=lkT_ok (by kernel_rfl)
def zrL:List (Nat×Value):=[(3,Value.int IntKind.i64 0),
  (4,Value.bool false),
  (5,Value.int IntKind.u8 0),
  (9,Value.string { data:= #[] }),
  (22,Value.slice none 0 0),
  (23,Value.slice none 0 0),
  (24,Value.slice none 0 0),
  (26,Value.agg #[Value.string { data:= #[] },Value.int IntKind.i64 0]),
  (28,Value.agg #[Value.slice none 0 0,Value.string { data:= #[] },Value.int IntKind.i64 0]),
  (29,Value.slice none 0 0),
  (30,Value.slice none 0 0),
  (32,Value.agg #[Value.slice none 0 0,Value.slice none 0 0,Value.slice none 0 0,Value.string { data:= #[] },Value.int IntKind.i64 0,Value.int IntKind.i64 0,Value.int IntKind.i64 0,Value.int IntKind.i64 0,Value.slice none 0 0,Value.slice none 0 0,Value.bool false]),
  (35,Value.slice none 0 0),
  (36,Value.slice none 0 0),
  (37,Value.slice none 0 0),
  (38,Value.agg #[Value.string { data:= #[] },Value.int IntKind.i64 0]),
  (40,Value.agg #[Value.slice none 0 0,Value.string { data:= #[] },Value.int IntKind.i64 0]),
  (41,Value.slice none 0 0),
  (43,Value.agg #[Value.slice none 0 0,Value.slice none 0 0,Value.slice none 0 0,Value.string { data:= #[] },Value.int IntKind.i64 0,Value.int IntKind.i64 0,Value.int IntKind.i64 0,Value.int IntKind.i64 0,Value.slice none 0 0,Value.slice none 0 0,Value.bool false]),
  (66,Value.agg #[Value.string { data:= #[] },Value.string { data:= #[] }]),
  (68,Value.slice none 0 0),
  (69,Value.slice none 0 0),
  (71,Value.agg #[Value.slice none 0 0,Value.slice none 0 0]),
  (72,Value.slice none 0 0),
  (74,Value.agg #[Value.int IntKind.i64 0,Value.int IntKind.i64 0,Value.int IntKind.i64 0,Value.int IntKind.i64 0,Value.slice none 0 0,Value.slice none 0 0,Value.slice none 0 0,Value.slice none 0 0,Value.slice none 0 0,Value.int IntKind.i64 0]),
  (78,Value.slice none 0 0),
  (80,Value.agg #[Value.int IntKind.i64 0,Value.int IntKind.i64 0,Value.int IntKind.i64 0,Value.slice none 0 0,Value.slice none 0 0,Value.int IntKind.i64 0,Value.int IntKind.i64 0,Value.bool false]),
  (84,Value.slice none 0 0),
  (85,Value.slice none 0 0),
  (86,Value.agg #[Value.slice none 0 0,Value.slice none 0 0]),
  (88,Value.agg #[Value.int IntKind.i64 0,Value.int IntKind.i64 0,Value.int IntKind.i64 0,Value.int IntKind.i64 0,Value.slice none 0 0,Value.slice none 0 0,Value.slice none 0 0,Value.slice none 0 0,Value.slice none 0 0,Value.int IntKind.i64 0]),
  (93,Value.slice none 0 0),
  (96,Value.agg #[Value.int IntKind.i64 0,Value.int IntKind.i64 0,Value.int IntKind.i64 0,Value.slice none 0 0,Value.slice none 0 0,Value.int IntKind.i64 0,Value.int IntKind.i64 0,Value.bool false]),
  (97,Value.agg #[Value.string { data:= #[] },Value.string { data:= #[] }]),
  (108,Value.agg #[Value.int IntKind.i64 0,Value.int IntKind.i64 0,Value.string { data:= #[] }]),
  (120,Value.agg #[Value.int IntKind.i64 0,Value.slice none 0 0,Value.bool false]),
  (136,Value.agg #[Value.int IntKind.i64 0,Value.string { data:= #[] },Value.string { data:= #[] },Value.int IntKind.i64 0,Value.int IntKind.i64 0,Value.string { data:= #[] }]),
  (138,Value.agg #[Value.int IntKind.i64 0,Value.int IntKind.i64 0,Value.string { data:= #[] },Value.string { data:= #[] },Value.int IntKind.i64 0,Value.int IntKind.i64 0,Value.string { data:= #[] }]),
  (144,Value.agg #[Value.int IntKind.i64 0,Value.slice none 0 0,Value.bool false]),
  (151,Value.nilFunc),
  (152,Value.pointer none),
  (160,Value.agg #[Value.int IntKind.i64 0,Value.string { data:= #[] },Value.string { data:= #[] },Value.int IntKind.i64 0,Value.int IntKind.i64 0,Value.string { data:= #[] }]),
  (162,Value.agg #[Value.int IntKind.i64 0,Value.int IntKind.i64 0,Value.string { data:= #[] }]),
  (165,Value.agg #[Value.int IntKind.i64 0,Value.int IntKind.i64 0,Value.string { data:= #[] },Value.string { data:= #[] },Value.int IntKind.i64 0,Value.int IntKind.i64 0,Value.string { data:= #[] }]),
  (167,Value.nilFunc),
  (174,Value.slice none 0 0),
  (197,Value.agg #[Value.pointer none,Value.slice none 0 0]),
  (215,Value.nilFunc),
  (219,Value.agg #[Value.slice none 0 0,Value.slice none 0 0,Value.slice none 0 0]),
  (229,Value.pointer none)]
def ftL:List (Nat×Nat×Nat):=[]
def lkFt:List (Nat×Nat×Nat)→Nat→Nat→Option Nat
 | [],_,_=>none
 | (t,i,f)::r,t' ,i'=>bif Nat.beq t t'&&Nat.beq i i' then some f else lkFt r t' i'
def arL:List (Nat×Nat):=[]
def lkAr:List (Nat×Nat)→Nat→Option Nat
 | [],_=>none
 | (t,n)::r,t'=>bif Nat.beq t t' then some n else lkAr r t'
def sqL:List (Nat×List Nat):=[(26,[1,0]),(38,[1,0]),(66,[1,1]),(97,[1,1]),(108,[0,0,1]),(136,[0,1,1,0,0,1]),(160,[0,1,1,0,0,1]),(162,[0,0,1])]
def lkSq:List (Nat×List Nat)→Nat→Option (List Nat)
 | [],_=>none
 | (t,n)::r,t'=>bif Nat.beq t t' then some n else lkSq r t'
def zr:Ri.Zr:=⟨lkZ zrL,lkFt ftL,lkAr arL,lkSq sqL⟩
theorem sqk26:Ri.SqOk Tryz.prog 26 [1,0]:=by
 refine⟨by kernel_rfl,fun cx cy r h w=>?_⟩
 obtain⟨a0,b0,cx,cy,r0,rfl,rfl,h1,rfl⟩:=Ri.eqK_s h
 obtain⟨a1,b1,cx,cy,r1,rfl,rfl,h2,rfl⟩:=Ri.eqK_i h1
 obtain⟨rfl,rfl,rfl⟩:=Ri.eqK_n h2
 have u3:=Tryz.underlying3
 have q3:=Tryz.isAgg3
 have z3:=Tryz.sizeOf3
 have u9:=Tryz.underlying9
 have q9:=Tryz.isAgg9
 have z9:=Tryz.sizeOf9
 have hS:Tryz.prog.underlying 26=some (.struct (Tryz.prog.fieldsOf 26)):=by kernel_rfl
 have hp:Tryz.prog.stoodInHeld 26=false:=by kernel_rfl
 rw[run_equalIn_agg w 9999 26 _ _ hS hp]
 simp only[Program.fieldsOf,Tryz.underlying26]
 go_simp
 simp only[bt_inj]
 repeat' split
 all_goals simp_all
theorem sqk38:Ri.SqOk Tryz.prog 38 [1,0]:=by
 refine⟨by kernel_rfl,fun cx cy r h w=>?_⟩
 obtain⟨a0,b0,cx,cy,r0,rfl,rfl,h1,rfl⟩:=Ri.eqK_s h
 obtain⟨a1,b1,cx,cy,r1,rfl,rfl,h2,rfl⟩:=Ri.eqK_i h1
 obtain⟨rfl,rfl,rfl⟩:=Ri.eqK_n h2
 have u3:=Tryz.underlying3
 have q3:=Tryz.isAgg3
 have z3:=Tryz.sizeOf3
 have u9:=Tryz.underlying9
 have q9:=Tryz.isAgg9
 have z9:=Tryz.sizeOf9
 have hS:Tryz.prog.underlying 38=some (.struct (Tryz.prog.fieldsOf 38)):=by kernel_rfl
 have hp:Tryz.prog.stoodInHeld 38=false:=by kernel_rfl
 rw[run_equalIn_agg w 9999 38 _ _ hS hp]
 simp only[Program.fieldsOf,Tryz.underlying38]
 go_simp
 simp only[bt_inj]
 repeat' split
 all_goals simp_all
theorem sqk66:Ri.SqOk Tryz.prog 66 [1,1]:=by
 refine⟨by kernel_rfl,fun cx cy r h w=>?_⟩
 obtain⟨a0,b0,cx,cy,r0,rfl,rfl,h1,rfl⟩:=Ri.eqK_s h
 obtain⟨a1,b1,cx,cy,r1,rfl,rfl,h2,rfl⟩:=Ri.eqK_s h1
 obtain⟨rfl,rfl,rfl⟩:=Ri.eqK_n h2
 have u9:=Tryz.underlying9
 have q9:=Tryz.isAgg9
 have z9:=Tryz.sizeOf9
 have hS:Tryz.prog.underlying 66=some (.struct (Tryz.prog.fieldsOf 66)):=by kernel_rfl
 have hp:Tryz.prog.stoodInHeld 66=false:=by kernel_rfl
 rw[run_equalIn_agg w 9999 66 _ _ hS hp]
 simp only[Program.fieldsOf,Tryz.underlying66]
 go_simp
 simp only[bt_inj]
 repeat' split
 all_goals simp_all
theorem sqk97:Ri.SqOk Tryz.prog 97 [1,1]:=by
 refine⟨by kernel_rfl,fun cx cy r h w=>?_⟩
 obtain⟨a0,b0,cx,cy,r0,rfl,rfl,h1,rfl⟩:=Ri.eqK_s h
 obtain⟨a1,b1,cx,cy,r1,rfl,rfl,h2,rfl⟩:=Ri.eqK_s h1
 obtain⟨rfl,rfl,rfl⟩:=Ri.eqK_n h2
 have u9:=Tryz.underlying9
 have q9:=Tryz.isAgg9
 have z9:=Tryz.sizeOf9
 have hS:Tryz.prog.underlying 97=some (.struct (Tryz.prog.fieldsOf 97)):=by kernel_rfl
 have hp:Tryz.prog.stoodInHeld 97=false:=by kernel_rfl
 rw[run_equalIn_agg w 9999 97 _ _ hS hp]
 simp only[Program.fieldsOf,Tryz.underlying97]
 go_simp
 simp only[bt_inj]
 repeat' split
 all_goals simp_all
theorem sqk108:Ri.SqOk Tryz.prog 108 [0,0,1]:=by
 refine⟨by kernel_rfl,fun cx cy r h w=>?_⟩
 obtain⟨a0,b0,cx,cy,r0,rfl,rfl,h1,rfl⟩:=Ri.eqK_i h
 obtain⟨a1,b1,cx,cy,r1,rfl,rfl,h2,rfl⟩:=Ri.eqK_i h1
 obtain⟨a2,b2,cx,cy,r2,rfl,rfl,h3,rfl⟩:=Ri.eqK_s h2
 obtain⟨rfl,rfl,rfl⟩:=Ri.eqK_n h3
 have u3:=Tryz.underlying3
 have q3:=Tryz.isAgg3
 have z3:=Tryz.sizeOf3
 have u9:=Tryz.underlying9
 have q9:=Tryz.isAgg9
 have z9:=Tryz.sizeOf9
 have hS:Tryz.prog.underlying 108=some (.struct (Tryz.prog.fieldsOf 108)):=by kernel_rfl
 have hp:Tryz.prog.stoodInHeld 108=false:=by kernel_rfl
 rw[run_equalIn_agg w 9999 108 _ _ hS hp]
 simp only[Program.fieldsOf,Tryz.underlying108]
 go_simp
 simp only[bt_inj]
 repeat' split
 all_goals simp_all
theorem sqk136:Ri.SqOk Tryz.prog 136 [0,1,1,0,0,1]:=by
 refine⟨by kernel_rfl,fun cx cy r h w=>?_⟩
 obtain⟨a0,b0,cx,cy,r0,rfl,rfl,h1,rfl⟩:=Ri.eqK_i h
 obtain⟨a1,b1,cx,cy,r1,rfl,rfl,h2,rfl⟩:=Ri.eqK_s h1
 obtain⟨a2,b2,cx,cy,r2,rfl,rfl,h3,rfl⟩:=Ri.eqK_s h2
 obtain⟨a3,b3,cx,cy,r3,rfl,rfl,h4,rfl⟩:=Ri.eqK_i h3
 obtain⟨a4,b4,cx,cy,r4,rfl,rfl,h5,rfl⟩:=Ri.eqK_i h4
 obtain⟨a5,b5,cx,cy,r5,rfl,rfl,h6,rfl⟩:=Ri.eqK_s h5
 obtain⟨rfl,rfl,rfl⟩:=Ri.eqK_n h6
 have u3:=Tryz.underlying3
 have q3:=Tryz.isAgg3
 have z3:=Tryz.sizeOf3
 have u9:=Tryz.underlying9
 have q9:=Tryz.isAgg9
 have z9:=Tryz.sizeOf9
 have hS:Tryz.prog.underlying 136=some (.struct (Tryz.prog.fieldsOf 136)):=by kernel_rfl
 have hp:Tryz.prog.stoodInHeld 136=false:=by kernel_rfl
 rw[run_equalIn_agg w 9999 136 _ _ hS hp]
 simp only[Program.fieldsOf,Tryz.underlying136]
 go_simp
 simp only[bt_inj]
 repeat' split
 all_goals simp_all
theorem sqk160:Ri.SqOk Tryz.prog 160 [0,1,1,0,0,1]:=by
 refine⟨by kernel_rfl,fun cx cy r h w=>?_⟩
 obtain⟨a0,b0,cx,cy,r0,rfl,rfl,h1,rfl⟩:=Ri.eqK_i h
 obtain⟨a1,b1,cx,cy,r1,rfl,rfl,h2,rfl⟩:=Ri.eqK_s h1
 obtain⟨a2,b2,cx,cy,r2,rfl,rfl,h3,rfl⟩:=Ri.eqK_s h2
 obtain⟨a3,b3,cx,cy,r3,rfl,rfl,h4,rfl⟩:=Ri.eqK_i h3
 obtain⟨a4,b4,cx,cy,r4,rfl,rfl,h5,rfl⟩:=Ri.eqK_i h4
 obtain⟨a5,b5,cx,cy,r5,rfl,rfl,h6,rfl⟩:=Ri.eqK_s h5
 obtain⟨rfl,rfl,rfl⟩:=Ri.eqK_n h6
 have u3:=Tryz.underlying3
 have q3:=Tryz.isAgg3
 have z3:=Tryz.sizeOf3
 have u9:=Tryz.underlying9
 have q9:=Tryz.isAgg9
 have z9:=Tryz.sizeOf9
 have hS:Tryz.prog.underlying 160=some (.struct (Tryz.prog.fieldsOf 160)):=by kernel_rfl
 have hp:Tryz.prog.stoodInHeld 160=false:=by kernel_rfl
 rw[run_equalIn_agg w 9999 160 _ _ hS hp]
 simp only[Program.fieldsOf,Tryz.underlying160]
 go_simp
 simp only[bt_inj]
 repeat' split
 all_goals simp_all
theorem sqk162:Ri.SqOk Tryz.prog 162 [0,0,1]:=by
 refine⟨by kernel_rfl,fun cx cy r h w=>?_⟩
 obtain⟨a0,b0,cx,cy,r0,rfl,rfl,h1,rfl⟩:=Ri.eqK_i h
 obtain⟨a1,b1,cx,cy,r1,rfl,rfl,h2,rfl⟩:=Ri.eqK_i h1
 obtain⟨a2,b2,cx,cy,r2,rfl,rfl,h3,rfl⟩:=Ri.eqK_s h2
 obtain⟨rfl,rfl,rfl⟩:=Ri.eqK_n h3
 have u3:=Tryz.underlying3
 have q3:=Tryz.isAgg3
 have z3:=Tryz.sizeOf3
 have u9:=Tryz.underlying9
 have q9:=Tryz.isAgg9
 have z9:=Tryz.sizeOf9
 have hS:Tryz.prog.underlying 162=some (.struct (Tryz.prog.fieldsOf 162)):=by kernel_rfl
 have hp:Tryz.prog.stoodInHeld 162=false:=by kernel_rfl
 rw[run_equalIn_agg w 9999 162 _ _ hS hp]
 simp only[Program.fieldsOf,Tryz.underlying162]
 go_simp
 simp only[bt_inj]
 repeat' split
 all_goals simp_all
theorem sqok: ∀ t ks,zr.sq t=some ks→Ri.SqOk Tryz.prog t ks:=by
 intro t ks h
 simp only[zr,sqL,lkSq] at h
 cases e0:Nat.beq 26 t with
 | true =>
  obtain rfl:=Nat.eq_of_beq_eq_true e0
  cases h
  exact sqk26
 | false=>
 rw[e0] at h
 simp only[cond_false] at h
 cases e1:Nat.beq 38 t with
 | true =>
  obtain rfl:=Nat.eq_of_beq_eq_true e1
  cases h
  exact sqk38
 | false=>
 rw[e1] at h
 simp only[cond_false] at h
 cases e2:Nat.beq 66 t with
 | true =>
  obtain rfl:=Nat.eq_of_beq_eq_true e2
  cases h
  exact sqk66
 | false=>
 rw[e2] at h
 simp only[cond_false] at h
 cases e3:Nat.beq 97 t with
 | true =>
  obtain rfl:=Nat.eq_of_beq_eq_true e3
  cases h
  exact sqk97
 | false=>
 rw[e3] at h
 simp only[cond_false] at h
 cases e4:Nat.beq 108 t with
 | true =>
  obtain rfl:=Nat.eq_of_beq_eq_true e4
  cases h
  exact sqk108
 | false=>
 rw[e4] at h
 simp only[cond_false] at h
 cases e5:Nat.beq 136 t with
 | true =>
  obtain rfl:=Nat.eq_of_beq_eq_true e5
  cases h
  exact sqk136
 | false=>
 rw[e5] at h
 simp only[cond_false] at h
 cases e6:Nat.beq 160 t with
 | true =>
  obtain rfl:=Nat.eq_of_beq_eq_true e6
  cases h
  exact sqk160
 | false=>
 rw[e6] at h
 simp only[cond_false] at h
 cases e7:Nat.beq 162 t with
 | true =>
  obtain rfl:=Nat.eq_of_beq_eq_true e7
  cases h
  exact sqk162
 | false=>
 rw[e7] at h
 simp only[cond_false] at h
 cases h
theorem arok: ∀ t n,zr.ar t=some n→ ∃ e,chkArr Tryz.prog t n e=true:=by
 intro t n h
 simp only[zr,arL,lkAr] at h
 cases h
theorem zok: ∀ t z,zr t=some z→ ∀ w,(zeroValue t).run Tryz.prog w= .ok z w:=lkZ_ok ⟨Tryz.zeroValue3,Tryz.zeroValue4,Tryz.zeroValue5,Tryz.zeroValue9,Tryz.zeroValue22,Tryz.zeroValue23,Tryz.zeroValue24,Tryz.zeroValue26,Tryz.zeroValue28,Tryz.zeroValue29,Tryz.zeroValue30,Tryz.zeroValue32,Tryz.zeroValue35,Tryz.zeroValue36,Tryz.zeroValue37,Tryz.zeroValue38,Tryz.zeroValue40,Tryz.zeroValue41,Tryz.zeroValue43,Tryz.zeroValue66,Tryz.zeroValue68,Tryz.zeroValue69,Tryz.zeroValue71,Tryz.zeroValue72,Tryz.zeroValue74,Tryz.zeroValue78,Tryz.zeroValue80,Tryz.zeroValue84,Tryz.zeroValue85,Tryz.zeroValue86,Tryz.zeroValue88,Tryz.zeroValue93,Tryz.zeroValue96,Tryz.zeroValue97,Tryz.zeroValue108,Tryz.zeroValue120,Tryz.zeroValue136,Tryz.zeroValue138,Tryz.zeroValue144,Tryz.zeroValue151,Tryz.zeroValue152,Tryz.zeroValue160,Tryz.zeroValue162,Tryz.zeroValue165,Tryz.zeroValue167,Tryz.zeroValue174,Tryz.zeroValue197,Tryz.zeroValue215,Tryz.zeroValue219,Tryz.zeroValue229,trivial⟩
theorem ftok: ∀ t i f,zr.ft t i=some f→ ∃ off sz,chkFieldT Tryz.prog t i off f sz=true:=by
 intro t i f h
 simp only[zr,ftL,lkFt] at h
 cases h
end Go.Proofs.YtapfpflmcgfbkaaGreatDoor.Fw

namespace Go.Proofs.YtapfpflmcgfbkaaGreatDoor.Ri
open Go.Proofs.YtapfpflmcgfbkaaGreatDoor.Fw
set_option linter.unusedVariables false
set_option maxRecDepth 100000
structure L01Cur where
 b:List UInt8
 i:Int
 h:Int
 deriving Inhabited
instance:Dat L01Cur:=Dat.pull fun x=>(x.b,x.i,x.h)
instance:Str L01Cur where
 fk:=[.sl UInt8 instDatUInt8 (fun x=>x.b),.int (fun x=>x.i),.int (fun x=>x.h)]
 op h:=pull_op (fun x:L01Cur=>(x.b,x.i,x.h)) h
 cl h:=pull_cl (fun x:L01Cur=>(x.b,x.i,x.h)) h
 oop h:=pull_oop (fun x:L01Cur=>(x.b,x.i,x.h)) h
 omk h:=pull_omk (fun x:L01Cur=>(x.b,x.i,x.h)) h
 gd h:=pull_gd (fun x:L01Cur=>(x.b,x.i,x.h)) h
noncomputable def tys:List (Nat×Ty):=[(3,⟨Int,inferInstance,inferInstance⟩),(4,⟨Bool,inferInstance,inferInstance⟩),(5,⟨UInt8,inferInstance,inferInstance⟩),(9,⟨ByteArray,inferInstance,inferInstance⟩),(22,⟨List Fw.Cell,inferInstance,inferInstance⟩),(23,⟨List Fw.Tx,inferInstance,inferInstance⟩),(24,⟨List Fw.Slot,inferInstance,inferInstance⟩),(26,⟨Fw.Journal,inferInstance,inferInstance⟩),(28,⟨Fw.Disk,inferInstance,inferInstance⟩),(29,⟨List Fw.Entry,inferInstance,inferInstance⟩),(30,⟨List ByteArray,inferInstance,inferInstance⟩),(32,⟨Fw.Kernel,inferInstance,inferInstance⟩),(35,⟨List Fw.Cell,inferInstance,inferInstance⟩),(36,⟨List Fw.Tx,inferInstance,inferInstance⟩),(37,⟨List Fw.Slot,inferInstance,inferInstance⟩),(38,⟨Fw.Journal,inferInstance,inferInstance⟩),(40,⟨Fw.Disk,inferInstance,inferInstance⟩),(41,⟨List Fw.Entry,inferInstance,inferInstance⟩),(43,⟨Fw.Kernel,inferInstance,inferInstance⟩),(66,⟨Fw.Cell,inferInstance,inferInstance⟩),(68,⟨List Fw.Call,inferInstance,inferInstance⟩),(69,⟨List Fw.Answer,inferInstance,inferInstance⟩),(71,⟨Fw.Touch,inferInstance,inferInstance⟩),(72,⟨List Int,inferInstance,inferInstance⟩),(74,⟨Fw.Tx,inferInstance,inferInstance⟩),(78,⟨List Fw.Step,inferInstance,inferInstance⟩),(80,⟨Fw.Entry,inferInstance,inferInstance⟩),(84,⟨List Fw.Call,inferInstance,inferInstance⟩),(85,⟨List Fw.Answer,inferInstance,inferInstance⟩),(86,⟨Fw.Touch,inferInstance,inferInstance⟩),(88,⟨Fw.Tx,inferInstance,inferInstance⟩),(93,⟨List Fw.Step,inferInstance,inferInstance⟩),(96,⟨Fw.Entry,inferInstance,inferInstance⟩),(97,⟨Fw.Cell,inferInstance,inferInstance⟩),(108,⟨Fw.Answer,inferInstance,inferInstance⟩),(120,⟨Fw.Slot,inferInstance,inferInstance⟩),(136,⟨Fw.Call,inferInstance,inferInstance⟩),(138,⟨Fw.Step,inferInstance,inferInstance⟩),(144,⟨Fw.Slot,inferInstance,inferInstance⟩),(160,⟨Fw.Call,inferInstance,inferInstance⟩),(162,⟨Fw.Answer,inferInstance,inferInstance⟩),(165,⟨Fw.Step,inferInstance,inferInstance⟩),(174,⟨List UInt8,inferInstance,inferInstance⟩),(219,⟨Fw.Mach,inferInstance,inferInstance⟩)]
noncomputable def τ0:Tab:=tabOf tys
noncomputable def to3:TyO τ0 3 where
 fs:=[.int]
 tu:=fun(x:Int)=>(x,())
 of:=fun h=>(h.1:Int)
 back h:=rfl
 op {S w us x} h:=Str.op (α:=Int) h
 cl {S w us x} h:=Str.cl (α:=Int) h
noncomputable def to4:TyO τ0 4 where
 fs:=[.bool]
 tu:=fun(x:Bool)=>(x,())
 of:=fun h=>(h.1:Bool)
 back h:=rfl
 op {S w us x} h:=Str.op (α:=Bool) h
 cl {S w us x} h:=Str.cl (α:=Bool) h
noncomputable def to5:TyO τ0 5 where
 fs:=[.byte]
 tu:=fun(x:UInt8)=>(x,())
 of:=fun h=>(h.1:UInt8)
 back h:=rfl
 op {S w us x} h:=Str.op (α:=UInt8) h
 cl {S w us x} h:=Str.cl (α:=UInt8) h
 bt:=some (fun x=>x,fun x=>x)
 bl p h:=by
  cases h
  exact ⟨rfl, fun S w us x h => by
   obtain⟨v,r,rfl,hv,rfl⟩:=(inferInstance:Str UInt8).op h
   rw[hv];rfl,fun S w x=>(inferInstance:Str UInt8).cl ⟨_,_,rfl,rfl,rfl⟩⟩
noncomputable def to9:TyO τ0 9 where
 fs:=[.str]
 tu:=fun(x:ByteArray)=>(x,())
 of:=fun h=>(h.1:ByteArray)
 back h:=rfl
 op {S w us x} h:=Str.op (α:=ByteArray) h
 cl {S w us x} h:=Str.cl (α:=ByteArray) h
noncomputable def to22:TyO τ0 22 where
 fs:=[.sl 66]
 tu:=fun(x:List Fw.Cell)=>(x,())
 of:=fun h=>(h.1:List Fw.Cell)
 back h:=rfl
 op {S w us x} h:=Str.op (α:=List Fw.Cell) h
 cl {S w us x} h:=Str.cl (α:=List Fw.Cell) h
noncomputable def to23:TyO τ0 23 where
 fs:=[.sl 74]
 tu:=fun(x:List Fw.Tx)=>(x,())
 of:=fun h=>(h.1:List Fw.Tx)
 back h:=rfl
 op {S w us x} h:=Str.op (α:=List Fw.Tx) h
 cl {S w us x} h:=Str.cl (α:=List Fw.Tx) h
noncomputable def to24:TyO τ0 24 where
 fs:=[.sl 120]
 tu:=fun(x:List Fw.Slot)=>(x,())
 of:=fun h=>(h.1:List Fw.Slot)
 back h:=rfl
 op {S w us x} h:=Str.op (α:=List Fw.Slot) h
 cl {S w us x} h:=Str.cl (α:=List Fw.Slot) h
noncomputable def to26:TyO τ0 26 where
 fs:=[.str,.int]
 tu:=fun(x:Fw.Journal)=>(x.Text,x.Sure,())
 of:=fun h=>(⟨h.1,h.2.1⟩:Fw.Journal)
 back h:=rfl
 op {S w us x} h:=Str.op (α:=Fw.Journal) h
 cl {S w us x} h:=Str.cl (α:=Fw.Journal) h
noncomputable def to28:TyO τ0 28 where
 fs:=[.sl 120,.str,.int]
 tu:=fun(x:Fw.Disk)=>(x.Slots,x.Journal.Text,x.Journal.Sure,())
 of:=fun h=>(⟨h.1,⟨h.2.1,h.2.2.1⟩⟩:Fw.Disk)
 back h:=rfl
 op {S w us x} h:=Str.op (α:=Fw.Disk) h
 cl {S w us x} h:=Str.cl (α:=Fw.Disk) h
noncomputable def to29:TyO τ0 29 where
 fs:=[.sl 80]
 tu:=fun(x:List Fw.Entry)=>(x,())
 of:=fun h=>(h.1:List Fw.Entry)
 back h:=rfl
 op {S w us x} h:=Str.op (α:=List Fw.Entry) h
 cl {S w us x} h:=Str.cl (α:=List Fw.Entry) h
noncomputable def to30:TyO τ0 30 where
 fs:=[.sl 9]
 tu:=fun(x:List ByteArray)=>(x,())
 of:=fun h=>(h.1:List ByteArray)
 back h:=rfl
 op {S w us x} h:=Str.op (α:=List ByteArray) h
 cl {S w us x} h:=Str.cl (α:=List ByteArray) h
noncomputable def to32:TyO τ0 32 where
 fs:=[.sl 66,.sl 74,.sl 120,.str,.int,.int,.int,.int,.sl 80,.sl 9,.bool]
 tu:=fun(x:Fw.Kernel)=>(x.Store,x.Txs,x.Disk.Slots,x.Disk.Journal.Text,x.Disk.Journal.Sure,x.Seq,x.Next,x.Time,x.History,x.Seen,x.Room,())
 of:=fun h=>(⟨h.1,h.2.1,⟨h.2.2.1,⟨h.2.2.2.1,h.2.2.2.2.1⟩⟩,h.2.2.2.2.2.1,h.2.2.2.2.2.2.1,h.2.2.2.2.2.2.2.1,h.2.2.2.2.2.2.2.2.1,h.2.2.2.2.2.2.2.2.2.1,h.2.2.2.2.2.2.2.2.2.2.1⟩:Fw.Kernel)
 back h:=rfl
 op {S w us x} h:=Str.op (α:=Fw.Kernel) h
 cl {S w us x} h:=Str.cl (α:=Fw.Kernel) h
noncomputable def to35:TyO τ0 35 where
 fs:=[.sl 97]
 tu:=fun(x:List Fw.Cell)=>(x,())
 of:=fun h=>(h.1:List Fw.Cell)
 back h:=rfl
 op {S w us x} h:=Str.op (α:=List Fw.Cell) h
 cl {S w us x} h:=Str.cl (α:=List Fw.Cell) h
noncomputable def to36:TyO τ0 36 where
 fs:=[.sl 88]
 tu:=fun(x:List Fw.Tx)=>(x,())
 of:=fun h=>(h.1:List Fw.Tx)
 back h:=rfl
 op {S w us x} h:=Str.op (α:=List Fw.Tx) h
 cl {S w us x} h:=Str.cl (α:=List Fw.Tx) h
noncomputable def to37:TyO τ0 37 where
 fs:=[.sl 144]
 tu:=fun(x:List Fw.Slot)=>(x,())
 of:=fun h=>(h.1:List Fw.Slot)
 back h:=rfl
 op {S w us x} h:=Str.op (α:=List Fw.Slot) h
 cl {S w us x} h:=Str.cl (α:=List Fw.Slot) h
noncomputable def to38:TyO τ0 38 where
 fs:=[.str,.int]
 tu:=fun(x:Fw.Journal)=>(x.Text,x.Sure,())
 of:=fun h=>(⟨h.1,h.2.1⟩:Fw.Journal)
 back h:=rfl
 op {S w us x} h:=Str.op (α:=Fw.Journal) h
 cl {S w us x} h:=Str.cl (α:=Fw.Journal) h
noncomputable def to40:TyO τ0 40 where
 fs:=[.sl 144,.str,.int]
 tu:=fun(x:Fw.Disk)=>(x.Slots,x.Journal.Text,x.Journal.Sure,())
 of:=fun h=>(⟨h.1,⟨h.2.1,h.2.2.1⟩⟩:Fw.Disk)
 back h:=rfl
 op {S w us x} h:=Str.op (α:=Fw.Disk) h
 cl {S w us x} h:=Str.cl (α:=Fw.Disk) h
noncomputable def to41:TyO τ0 41 where
 fs:=[.sl 96]
 tu:=fun(x:List Fw.Entry)=>(x,())
 of:=fun h=>(h.1:List Fw.Entry)
 back h:=rfl
 op {S w us x} h:=Str.op (α:=List Fw.Entry) h
 cl {S w us x} h:=Str.cl (α:=List Fw.Entry) h
noncomputable def to43:TyO τ0 43 where
 fs:=[.sl 97,.sl 88,.sl 144,.str,.int,.int,.int,.int,.sl 96,.sl 9,.bool]
 tu:=fun(x:Fw.Kernel)=>(x.Store,x.Txs,x.Disk.Slots,x.Disk.Journal.Text,x.Disk.Journal.Sure,x.Seq,x.Next,x.Time,x.History,x.Seen,x.Room,())
 of:=fun h=>(⟨h.1,h.2.1,⟨h.2.2.1,⟨h.2.2.2.1,h.2.2.2.2.1⟩⟩,h.2.2.2.2.2.1,h.2.2.2.2.2.2.1,h.2.2.2.2.2.2.2.1,h.2.2.2.2.2.2.2.2.1,h.2.2.2.2.2.2.2.2.2.1,h.2.2.2.2.2.2.2.2.2.2.1⟩:Fw.Kernel)
 back h:=rfl
 op {S w us x} h:=Str.op (α:=Fw.Kernel) h
 cl {S w us x} h:=Str.cl (α:=Fw.Kernel) h
noncomputable def to66:TyO τ0 66 where
 fs:=[.str,.str]
 tu:=fun(x:Fw.Cell)=>(x.Key,x.Val,())
 of:=fun h=>(⟨h.1,h.2.1⟩:Fw.Cell)
 back h:=rfl
 op {S w us x} h:=Str.op (α:=Fw.Cell) h
 cl {S w us x} h:=Str.cl (α:=Fw.Cell) h
noncomputable def to68:TyO τ0 68 where
 fs:=[.sl 160]
 tu:=fun(x:List Fw.Call)=>(x,())
 of:=fun h=>(h.1:List Fw.Call)
 back h:=rfl
 op {S w us x} h:=Str.op (α:=List Fw.Call) h
 cl {S w us x} h:=Str.cl (α:=List Fw.Call) h
noncomputable def to69:TyO τ0 69 where
 fs:=[.sl 162]
 tu:=fun(x:List Fw.Answer)=>(x,())
 of:=fun h=>(h.1:List Fw.Answer)
 back h:=rfl
 op {S w us x} h:=Str.op (α:=List Fw.Answer) h
 cl {S w us x} h:=Str.cl (α:=List Fw.Answer) h
noncomputable def to71:TyO τ0 71 where
 fs:=[.sl 9,.sl 9]
 tu:=fun(x:Fw.Touch)=>(x.Reads,x.Writes,())
 of:=fun h=>(⟨h.1,h.2.1⟩:Fw.Touch)
 back h:=rfl
 op {S w us x} h:=Str.op (α:=Fw.Touch) h
 cl {S w us x} h:=Str.cl (α:=Fw.Touch) h
noncomputable def to72:TyO τ0 72 where
 fs:=[.sl 3]
 tu:=fun(x:List Int)=>(x,())
 of:=fun h=>(h.1:List Int)
 back h:=rfl
 op {S w us x} h:=Str.op (α:=List Int) h
 cl {S w us x} h:=Str.cl (α:=List Int) h
noncomputable def to74:TyO τ0 74 where
 fs:=[.int,.int,.int,.int,.sl 160,.sl 162,.sl 9,.sl 9,.sl 3,.int]
 tu:=fun(x:Fw.Tx)=>(x.Id,x.Age,x.Proc,x.Began,x.Calls,x.Answers,x.Touch.Reads,x.Touch.Writes,x.Marks,x.State,())
 of:=fun h=>(⟨h.1,h.2.1,h.2.2.1,h.2.2.2.1,h.2.2.2.2.1,h.2.2.2.2.2.1,⟨h.2.2.2.2.2.2.1,h.2.2.2.2.2.2.2.1⟩,h.2.2.2.2.2.2.2.2.1,h.2.2.2.2.2.2.2.2.2.1⟩:Fw.Tx)
 back h:=rfl
 op {S w us x} h:=Str.op (α:=Fw.Tx) h
 cl {S w us x} h:=Str.cl (α:=Fw.Tx) h
noncomputable def to78:TyO τ0 78 where
 fs:=[.sl 165]
 tu:=fun(x:List Fw.Step)=>(x,())
 of:=fun h=>(h.1:List Fw.Step)
 back h:=rfl
 op {S w us x} h:=Str.op (α:=List Fw.Step) h
 cl {S w us x} h:=Str.cl (α:=List Fw.Step) h
noncomputable def to80:TyO τ0 80 where
 fs:=[.int,.int,.int,.sl 165,.sl 162,.int,.int,.bool]
 tu:=fun(x:Fw.Entry)=>(x.Seq,x.Kind,x.Tx,x.Steps,x.Answers,x.Began,x.Ended,x.Laid,())
 of:=fun h=>(⟨h.1,h.2.1,h.2.2.1,h.2.2.2.1,h.2.2.2.2.1,h.2.2.2.2.2.1,h.2.2.2.2.2.2.1,h.2.2.2.2.2.2.2.1⟩:Fw.Entry)
 back h:=rfl
 op {S w us x} h:=Str.op (α:=Fw.Entry) h
 cl {S w us x} h:=Str.cl (α:=Fw.Entry) h
noncomputable def to84:TyO τ0 84 where
 fs:=[.sl 136]
 tu:=fun(x:List Fw.Call)=>(x,())
 of:=fun h=>(h.1:List Fw.Call)
 back h:=rfl
 op {S w us x} h:=Str.op (α:=List Fw.Call) h
 cl {S w us x} h:=Str.cl (α:=List Fw.Call) h
noncomputable def to85:TyO τ0 85 where
 fs:=[.sl 108]
 tu:=fun(x:List Fw.Answer)=>(x,())
 of:=fun h=>(h.1:List Fw.Answer)
 back h:=rfl
 op {S w us x} h:=Str.op (α:=List Fw.Answer) h
 cl {S w us x} h:=Str.cl (α:=List Fw.Answer) h
noncomputable def to86:TyO τ0 86 where
 fs:=[.sl 9,.sl 9]
 tu:=fun(x:Fw.Touch)=>(x.Reads,x.Writes,())
 of:=fun h=>(⟨h.1,h.2.1⟩:Fw.Touch)
 back h:=rfl
 op {S w us x} h:=Str.op (α:=Fw.Touch) h
 cl {S w us x} h:=Str.cl (α:=Fw.Touch) h
noncomputable def to88:TyO τ0 88 where
 fs:=[.int,.int,.int,.int,.sl 136,.sl 108,.sl 9,.sl 9,.sl 3,.int]
 tu:=fun(x:Fw.Tx)=>(x.Id,x.Age,x.Proc,x.Began,x.Calls,x.Answers,x.Touch.Reads,x.Touch.Writes,x.Marks,x.State,())
 of:=fun h=>(⟨h.1,h.2.1,h.2.2.1,h.2.2.2.1,h.2.2.2.2.1,h.2.2.2.2.2.1,⟨h.2.2.2.2.2.2.1,h.2.2.2.2.2.2.2.1⟩,h.2.2.2.2.2.2.2.2.1,h.2.2.2.2.2.2.2.2.2.1⟩:Fw.Tx)
 back h:=rfl
 op {S w us x} h:=Str.op (α:=Fw.Tx) h
 cl {S w us x} h:=Str.cl (α:=Fw.Tx) h
noncomputable def to93:TyO τ0 93 where
 fs:=[.sl 138]
 tu:=fun(x:List Fw.Step)=>(x,())
 of:=fun h=>(h.1:List Fw.Step)
 back h:=rfl
 op {S w us x} h:=Str.op (α:=List Fw.Step) h
 cl {S w us x} h:=Str.cl (α:=List Fw.Step) h
noncomputable def to96:TyO τ0 96 where
 fs:=[.int,.int,.int,.sl 138,.sl 108,.int,.int,.bool]
 tu:=fun(x:Fw.Entry)=>(x.Seq,x.Kind,x.Tx,x.Steps,x.Answers,x.Began,x.Ended,x.Laid,())
 of:=fun h=>(⟨h.1,h.2.1,h.2.2.1,h.2.2.2.1,h.2.2.2.2.1,h.2.2.2.2.2.1,h.2.2.2.2.2.2.1,h.2.2.2.2.2.2.2.1⟩:Fw.Entry)
 back h:=rfl
 op {S w us x} h:=Str.op (α:=Fw.Entry) h
 cl {S w us x} h:=Str.cl (α:=Fw.Entry) h
noncomputable def to97:TyO τ0 97 where
 fs:=[.str,.str]
 tu:=fun(x:Fw.Cell)=>(x.Key,x.Val,())
 of:=fun h=>(⟨h.1,h.2.1⟩:Fw.Cell)
 back h:=rfl
 op {S w us x} h:=Str.op (α:=Fw.Cell) h
 cl {S w us x} h:=Str.cl (α:=Fw.Cell) h
noncomputable def to108:TyO τ0 108 where
 fs:=[.int,.int,.str]
 tu:=fun(x:Fw.Answer)=>(x.Code,x.N,x.Text,())
 of:=fun h=>(⟨h.1,h.2.1,h.2.2.1⟩:Fw.Answer)
 back h:=rfl
 op {S w us x} h:=Str.op (α:=Fw.Answer) h
 cl {S w us x} h:=Str.cl (α:=Fw.Answer) h
noncomputable def to120:TyO τ0 120 where
 fs:=[.int,.sl 66,.bool]
 tu:=fun(x:Fw.Slot)=>(x.Seq,x.Cells,x.Whole,())
 of:=fun h=>(⟨h.1,h.2.1,h.2.2.1⟩:Fw.Slot)
 back h:=rfl
 op {S w us x} h:=Str.op (α:=Fw.Slot) h
 cl {S w us x} h:=Str.cl (α:=Fw.Slot) h
noncomputable def to136:TyO τ0 136 where
 fs:=[.int,.str,.str,.int,.int,.str]
 tu:=fun(x:Fw.Call)=>(x.Kind,x.Name,x.To,x.A,x.B,x.Text,())
 of:=fun h=>(⟨h.1,h.2.1,h.2.2.1,h.2.2.2.1,h.2.2.2.2.1,h.2.2.2.2.2.1⟩:Fw.Call)
 back h:=rfl
 op {S w us x} h:=Str.op (α:=Fw.Call) h
 cl {S w us x} h:=Str.cl (α:=Fw.Call) h
noncomputable def to138:TyO τ0 138 where
 fs:=[.int,.int,.str,.str,.int,.int,.str]
 tu:=fun(x:Fw.Step)=>(x.Proc,x.Call.Kind,x.Call.Name,x.Call.To,x.Call.A,x.Call.B,x.Call.Text,())
 of:=fun h=>(⟨h.1,⟨h.2.1,h.2.2.1,h.2.2.2.1,h.2.2.2.2.1,h.2.2.2.2.2.1,h.2.2.2.2.2.2.1⟩⟩:Fw.Step)
 back h:=rfl
 op {S w us x} h:=Str.op (α:=Fw.Step) h
 cl {S w us x} h:=Str.cl (α:=Fw.Step) h
noncomputable def to144:TyO τ0 144 where
 fs:=[.int,.sl 97,.bool]
 tu:=fun(x:Fw.Slot)=>(x.Seq,x.Cells,x.Whole,())
 of:=fun h=>(⟨h.1,h.2.1,h.2.2.1⟩:Fw.Slot)
 back h:=rfl
 op {S w us x} h:=Str.op (α:=Fw.Slot) h
 cl {S w us x} h:=Str.cl (α:=Fw.Slot) h
noncomputable def to160:TyO τ0 160 where
 fs:=[.int,.str,.str,.int,.int,.str]
 tu:=fun(x:Fw.Call)=>(x.Kind,x.Name,x.To,x.A,x.B,x.Text,())
 of:=fun h=>(⟨h.1,h.2.1,h.2.2.1,h.2.2.2.1,h.2.2.2.2.1,h.2.2.2.2.2.1⟩:Fw.Call)
 back h:=rfl
 op {S w us x} h:=Str.op (α:=Fw.Call) h
 cl {S w us x} h:=Str.cl (α:=Fw.Call) h
noncomputable def to162:TyO τ0 162 where
 fs:=[.int,.int,.str]
 tu:=fun(x:Fw.Answer)=>(x.Code,x.N,x.Text,())
 of:=fun h=>(⟨h.1,h.2.1,h.2.2.1⟩:Fw.Answer)
 back h:=rfl
 op {S w us x} h:=Str.op (α:=Fw.Answer) h
 cl {S w us x} h:=Str.cl (α:=Fw.Answer) h
noncomputable def to165:TyO τ0 165 where
 fs:=[.int,.int,.str,.str,.int,.int,.str]
 tu:=fun(x:Fw.Step)=>(x.Proc,x.Call.Kind,x.Call.Name,x.Call.To,x.Call.A,x.Call.B,x.Call.Text,())
 of:=fun h=>(⟨h.1,⟨h.2.1,h.2.2.1,h.2.2.2.1,h.2.2.2.2.1,h.2.2.2.2.2.1,h.2.2.2.2.2.2.1⟩⟩:Fw.Step)
 back h:=rfl
 op {S w us x} h:=Str.op (α:=Fw.Step) h
 cl {S w us x} h:=Str.cl (α:=Fw.Step) h
noncomputable def to174:TyO τ0 174 where
 fs:=[.sl 5]
 tu:=fun(x:List UInt8)=>(x,())
 of:=fun h=>(h.1:List UInt8)
 back h:=rfl
 op {S w us x} h:=Str.op (α:=List UInt8) h
 cl {S w us x} h:=Str.cl (α:=List UInt8) h
noncomputable def to219:TyO τ0 219 where
 fs:=[.sl 97,.sl 9,.sl 9]
 tu:=fun(x:Fw.Mach)=>(x.Store,x.Touch.Reads,x.Touch.Writes,())
 of:=fun h=>(⟨h.1,⟨h.2.1,h.2.2.1⟩⟩:Fw.Mach)
 back h:=rfl
 op {S w us x} h:=Str.op (α:=Fw.Mach) h
 cl {S w us x} h:=Str.cl (α:=Fw.Mach) h
noncomputable def toL:List (Σ t,TyO τ0 t):=[⟨3,to3⟩,⟨4,to4⟩,⟨5,to5⟩,⟨9,to9⟩,⟨22,to22⟩,⟨23,to23⟩,⟨24,to24⟩,⟨26,to26⟩,⟨28,to28⟩,⟨29,to29⟩,⟨30,to30⟩,⟨32,to32⟩,⟨35,to35⟩,⟨36,to36⟩,⟨37,to37⟩,⟨38,to38⟩,⟨40,to40⟩,⟨41,to41⟩,⟨43,to43⟩,⟨66,to66⟩,⟨68,to68⟩,⟨69,to69⟩,⟨71,to71⟩,⟨72,to72⟩,⟨74,to74⟩,⟨78,to78⟩,⟨80,to80⟩,⟨84,to84⟩,⟨85,to85⟩,⟨86,to86⟩,⟨88,to88⟩,⟨93,to93⟩,⟨96,to96⟩,⟨97,to97⟩,⟨108,to108⟩,⟨120,to120⟩,⟨136,to136⟩,⟨138,to138⟩,⟨144,to144⟩,⟨160,to160⟩,⟨162,to162⟩,⟨165,to165⟩,⟨174,to174⟩,⟨219,to219⟩]
theorem toL_keys:toL.map (·.1)=tys.map (·.1):=rfl
noncomputable def O0 : Opn τ0 := opnOf fun t => lkO toL t fun h => tyMiss (lkTy_miss fun k hk => by
 rw[←toL_keys] at hk
 obtain⟨x,hx,rfl⟩:=List.mem_map.1 hk
 exact h x hx)
theorem O0_fit:MkFit O0:=opnOf_fit _
end Go.Proofs.YtapfpflmcgfbkaaGreatDoor.Ri

namespace Go.Proofs.YtapfpflmcgfbkaaGreatDoor.Fw
open Go.RowKit Go.Maps Go.Sort
set_option linter.unusedVariables false
def getV:List Cell→List UInt8→List UInt8
 | [],_=>[]
 | c::r,k=>if c.Key.data.toList=k then c.Val.data.toList else getV r k
def hasK (xs:List Cell) (k:List UInt8):Bool:=xs.any fun c=>decide (c.Key.data.toList=k)
theorem hasK_app (l:List Cell) (x:Cell) (q:List UInt8):hasK (l++[x]) q=(hasK l q||decide (x.Key.data.toList=q)):=by
 unfold hasK
 rw[List.any_append]
 simp
theorem getV_no {l:List Cell} {q:List UInt8} (h:hasK l q=false):getV l q=[]:=by
 induction l with
 | nil=>rfl
 | cons c r ih =>
  unfold hasK at h ih
  rw[List.any_cons,Bool.or_eq_false_iff,decide_eq_false_iff_not] at h
  unfold getV
  rw[if_neg h.1]
  exact ih h.2
theorem getV_app (l : List Cell) (x : Cell) (q : List UInt8) : getV (l ++ [x]) q = if hasK l q = true then getV l q else if x.Key.data.toList = q then x.Val.data.toList else [] := by
 induction l with
 | nil=>rfl
 | cons c r ih =>
  show getV (c::(r++[x])) q=_
  unfold getV
  by_cases h:c.Key.data.toList=q
  ·rw[if_pos h,if_pos h]
   have:hasK (c::r) q=true:=by unfold hasK;simp[h]
   rw[if_pos this]
  ·rw[if_neg h,if_neg h,ih]
   have:hasK (c::r) q=hasK r q:=by unfold hasK;simp[h]
   rw[this]
def neq (xs ys:List Cell) (k:List UInt8):Bool:=!decide (getV xs k=getV ys k)
def ddp:List (List UInt8)→List (List UInt8)
 | []=>[]
 | a::l=>if a∈ddp l then ddp l else a::ddp l
theorem ddp_mem {k:List UInt8}: ∀ l,k∈ddp l↔k∈l
 | []=>Iff.rfl
 | a :: l => by
  unfold ddp
  by_cases h:a∈ddp l
  ·rw[if_pos h,ddp_mem l,List.mem_cons]
   refine⟨.inr,fun h2=>h2.elim (fun e=>?_) id⟩
   rw[e]
   exact(ddp_mem l).1 h
  ·rw[if_neg h,List.mem_cons,List.mem_cons,ddp_mem l]
theorem ddp_nodup: ∀ l,(ddp l).Nodup
 | []=>List.nodup_nil
 | a :: l => by
  unfold ddp
  by_cases h:a∈ddp l
  ·rw[if_pos h];exact ddp_nodup l
  ·rw[if_neg h];exact List.nodup_cons.2 ⟨h,ddp_nodup l⟩
def keysOf (xs ys:List Cell):List (List UInt8):=(ddp ((xs.map fun c=>c.Key.data.toList)++ys.map fun c=>c.Key.data.toList)).filter fun k=>neq xs ys k
def diffM (xs ys:List Cell):List (List UInt8):=(keysOf xs ys).mergeSort leB
theorem hasK_mem {xs : List Cell} {k : List UInt8} : hasK xs k = true ↔ k ∈ xs.map fun c => c.Key.data.toList := by
 unfold hasK
 simp only[List.any_eq_true,decide_eq_true_eq,List.mem_map]
theorem keysOf_mem {xs ys:List Cell} {k:List UInt8}:k∈keysOf xs ys↔((hasK xs k||hasK ys k)&&neq xs ys k)=true:=by
 unfold keysOf
 rw[List.mem_filter,ddp_mem,List.mem_append,Bool.and_eq_true,Bool.or_eq_true,hasK_mem,hasK_mem]
theorem keysOf_nodup (xs ys:List Cell):(keysOf xs ys).Nodup:=(ddp_nodup _).filter _
end Go.Proofs.YtapfpflmcgfbkaaGreatDoor.Fw

namespace Go.Proofs.YtapfpflmcgfbkaaGreatDoor.Ri
open Go.Proofs.YtapfpflmcgfbkaaGreatDoor.Fw
def digF:Nat→Nat→List UInt8
 | 0,u=>[UInt8.ofNat (48+u % 10)]
 | f+1,u=>bif Nat.blt u 10 then[UInt8.ofNat (48+u)] else digF f (u / 10)++[UInt8.ofNat (48+u % 10)]
theorem digF_eq: ∀ (f u:Nat),u<10 ^ (f+1)→digF f u=Lib.decDigits u
 | 0, u, h => by
  have h:u<10:=by simpa using h
  rw[Lib.decDigits,dif_pos h]
  show[UInt8.ofNat (48+u % 10)]=_
  rw[Nat.mod_eq_of_lt h]
 | f + 1, u, h => by
  unfold digF
  by_cases hu:u<10
  ·rw[Lib.decDigits,dif_pos hu]
   have:Nat.blt u 10=true:=by simpa [Nat.blt_eq] using hu
   rw[this];rfl
  ·rw[Lib.decDigits,dif_neg hu]
   have:Nat.blt u 10=false:=by
    cases hb:Nat.blt u 10 with
    | false=>rfl
    | true=>exact absurd (by simpa [Nat.blt_eq] using hb) hu
   rw[this,cond_false,digF_eq f (u / 10) (by rw[Nat.pow_succ] at h;omega)]
def itoaL (n:Int):List UInt8:=bif decide (n<0) then 45::digF 19 n.natAbs else digF 19 n.toNat
theorem itoaL_eq {n:Int} (h:n.natAbs≤9223372036854775808):itoaL n=Lib.itoa n:=by
 unfold itoaL Lib.itoa
 by_cases hn:n<0
 ·rw[if_pos hn,decide_eq_true hn,cond_true,digF_eq _ _ (Nat.lt_of_le_of_lt h (by decide))]
 ·rw[if_neg hn,decide_eq_false hn,cond_false,digF_eq _ _ (Nat.lt_of_le_of_lt (show n.toNat≤9223372036854775808 by omega) (by decide))]
def itoaS (n:Int):ByteArray:=⟨(itoaL (IntKind.wrap .i64 n)).toArray⟩
def itoaX (x:Int×Unit):Option (ByteArray×Unit):=some (itoaS x.1,())
def hexS (xs:List UInt8):ByteArray:=⟨(Lib.Hx.encode xs).toArray⟩
def hexX (x:List UInt8×Unit):Option (ByteArray×Unit):=bif Nat.ble (2*x.1.length) 281474976710656 then some (hexS x.1,()) else none
def insX {α:Type} (x:List α×Int×List α×Unit):Option (List α×Unit):=bif (decide (0≤x.2.1)&&decide (x.2.1≤(x.1.length:Int)))&&(Nat.ble x.1.length 1099511627776&&Nat.beq x.2.2.1.length 1) then some (x.1.take x.2.1.toNat++x.2.2.1++x.1.drop x.2.1.toNat,()) else none
def cloneX {α:Type} (x:List α×Unit):Option (List α×Unit):=bif Nat.ble x.1.length 1099511627776 then some (x.1,()) else none
def diffS (x y:List Fw.Cell):List (List UInt8):=match keysOf x y with
 | []=>[]
 | a::l=>(a::l).mergeSort Go.leB
theorem diffS_eq (x y:List Fw.Cell):diffS x y=diffM x y:=by
 unfold diffS diffM
 cases keysOf x y with
 | nil=>simp
 | cons a l=>rfl
def diffX (x:List Fw.Cell×List Fw.Cell×Unit):Option (List ByteArray×Unit):=bif Nat.ble x.1.length 34359738368&&Nat.ble x.2.1.length 34359738368 then some ((diffS x.1 x.2.1).map fun k=>⟨k.toArray⟩,()) else none
def readM (l:List UInt8):Int×Bool×Unit:=match Lib.atoiAll l with
 | .ok v=>bif (decide (0≤v)&&decide (v≤1000000000))&&decide (itoaL v=l) then(v,true,()) else(0,false,())
 | _=>(0,false,())
def readX (x:ByteArray×Unit):Option (Int×Bool×Unit):=bif Nat.ble x.1.size 281474976710656 then some (readM x.1.data.toList) else none
def hexV (b:UInt8):Option Nat:=bif Nat.ble 48 b.toNat&&Nat.ble b.toNat 57 then some (b.toNat - 48) else bif Nat.ble 97 b.toNat&&Nat.ble b.toNat 102 then some (b.toNat - 87) else none
def unhexL:List UInt8→Option (List UInt8)
 | []=>some []
 | a :: b :: r => match hexV a, hexV b, unhexL r with
  | some x,some y,some z=>some (UInt8.ofNat (16*x+y)::z)
  | _,_,_=>none
 | _=>none
def unhexX (x : ByteArray × Unit) : Option (ByteArray × Bool × Unit) := bif Nat.ble x.1.size 281474976710656 then some (match unhexL x.1.data.toList with
  | some r=>bif Nat.ble r.length 20000 then(⟨r.toArray⟩,true,()) else(⟨#[]⟩,false,())
  | none=>(⟨#[]⟩,false,())) else none
def keyOkL (l:List UInt8):Bool:=(l.all fun b=>(Nat.ble 33 b.toNat&&Nat.ble b.toNat 126)&&!Nat.beq b.toNat 42)&&(Nat.ble 1 l.length&&Nat.ble l.length 40)
def sumL (l:List UInt8):Nat:=l.foldl (fun n b=>(31*n+b.toNat) % 9973) 7
def recGo:List UInt8→List Fw.Cell→Option (List UInt8)
 | out,[]=>some out
 | out,c::r=>bif (!keyOkL c.Key.data.toList||Nat.blt 60 c.Val.size)||Nat.blt 4000 out.length then none else recGo (out++32::(Lib.Hx.encode c.Key.data.toList++61::Lib.Hx.encode c.Val.data.toList)) r
def recL (seq : Int) (l : List Fw.Cell) : List UInt8 := bif decide (1 ≤ seq) && decide (seq ≤ 100000) then (match recGo (itoaL seq) l with
 | none=>[]
 | some out=>bif Nat.blt 4000 (out++32::35::(itoaL (sumL out)++[10])).length then[] else out++32::35::(itoaL (sumL out)++[10])) else[]
def recX (x:Int×List Fw.Cell×Unit):Option (ByteArray×Unit):=some (⟨(recL x.1 x.2.1).toArray⟩,())
end Go.Proofs.YtapfpflmcgfbkaaGreatDoor.Ri

namespace Go.Proofs.YtapfpflmcgfbkaaGreatDoor.Ri
open Go.Proofs.YtapfpflmcgfbkaaGreatDoor.Fw
set_option maxRecDepth 100000
def annL:List (Nat×Nat×List Nat×List (Nat×Nat))→Nat→Nat→Option An
 | [],_,_=>none
 | (f',p',l,n)::r,f,p=>bif Nat.beq f' f&&Nat.beq p' p then some ⟨l,n⟩ else annL r f p
def sgL:List (Nat×Sig)→Nat→Sig
 | [],_=>⟨[],[]⟩
 | (k,x)::r,t=>bif Nat.beq k t then x else sgL r t
def vrL:List (Nat×Nat×Nat)→Nat→Nat→Nat
 | [],_,f=>f
 | (a,b,v)::r,g,f=>bif Nat.beq a g&&Nat.beq b f then v else vrL r g f
def lkN:List (Nat×Nat)→Nat→Nat
 | [],_=>0
 | (a,v)::r,i=>bif Nat.beq a i then v else lkN r i
def hdL:List (Nat×Nat×List (Nat×Nat))→Nat→Nat→Nat→Nat
 | [],_,_,_=>0
 | (f,d,l)::r,g,i,k=>bif Nat.beq f g&&Nat.beq d i then lkN l k else hdL r g i k
def bs0 (f:Nat):Nat:=f % 1000
def ocL:List (Nat×List Nat)→Nat→Nat→Bool
 | [],_,_=>false
 | (f,l)::r,g,d=>bif Nat.beq f g then memN d l else ocL r g d
def sgT:List (Nat×Sig):=[(3,⟨[(32,.ro),(3,.ro)],[(4,.own)]⟩),
 (4,⟨[(32,.ro),(3,.ro)],[(3,.own)]⟩),
 (5,⟨[(43,.ro),(3,.ro)],[(4,.own)]⟩),
 (6,⟨[(32,.ro)],[(43,.own)]⟩),
 (7,⟨[(43,.ro),(3,.ro)],[(4,.own)]⟩),
 (8,⟨[(43,.ro),(43,.ro)],[(4,.own)]⟩),
 (9,⟨[(22,.ro),(3,.ro)],[(3,.own)]⟩),
 (10,⟨[(23,.ro),(3,.ro)],[(3,.own)]⟩),
 (11,⟨[(28,.ro),(3,.ro)],[(3,.own)]⟩),
 (12,⟨[(29,.ro),(3,.ro)],[(3,.own)]⟩),
 (13,⟨[(30,.ro),(3,.ro)],[(3,.own)]⟩),
 (14,⟨[(43,.ro),(3,.ro)],[(43,.ro),(3,.ro)]⟩),
 (15,⟨[(22,.ro)],[(35,.own)]⟩),
 (16,⟨[(23,.ro)],[(36,.own)]⟩),
 (17,⟨[(28,.ro)],[(40,.own)]⟩),
 (18,⟨[(29,.ro)],[(41,.own)]⟩),
 (19,⟨[(30,.ro)],[(30,.own)]⟩),
 (20,⟨[(43,.ro),(3,.ro)],[(43,.own),(3,.own)]⟩),
 (21,⟨[(35,.ro),(35,.ro)],[(4,.own)]⟩),
 (22,⟨[(36,.ro),(36,.ro)],[(4,.own)]⟩),
 (23,⟨[(40,.ro),(40,.ro)],[(4,.own)]⟩),
 (24,⟨[(41,.ro),(41,.ro)],[(4,.own)]⟩),
 (25,⟨[(30,.ro),(30,.ro)],[(4,.own)]⟩),
 (26,⟨[(66,.ro),(3,.ro)],[(3,.own)]⟩),
 (27,⟨[(74,.ro),(3,.ro)],[(3,.own)]⟩),
 (28,⟨[(24,.ro),(3,.ro)],[(3,.own)]⟩),
 (29,⟨[(26,.ro),(3,.ro)],[(3,.own)]⟩),
 (30,⟨[(80,.ro),(3,.ro)],[(3,.own)]⟩),
 (31,⟨[(43,.ro)],[(43,.own)]⟩),
 (32,⟨[(43,.ro)],[(4,.own)]⟩),
 (33,⟨[(43,.ro),(3,.ro)],[(3,.own)]⟩),
 (34,⟨[(35,.ro),(88,.ro)],[(35,.own)]⟩),
 (35,⟨[(35,.ro),(35,.ro)],[(35,.own)]⟩),
 (36,⟨[(43,.ro),(35,.ro)],[(43,.own),(4,.own)]⟩),
 (37,⟨[(88,.ro)],[(93,.own)]⟩),
 (38,⟨[(66,.ro)],[(97,.own)]⟩),
 (39,⟨[(74,.ro)],[(88,.own)]⟩),
 (40,⟨[(24,.ro)],[(37,.own)]⟩),
 (41,⟨[(26,.ro)],[(38,.own)]⟩),
 (42,⟨[(80,.ro)],[(96,.own)]⟩),
 (43,⟨[(43,.ro)],[(43,.own)]⟩),
 (44,⟨[(43,.ro)],[(4,.own)]⟩),
 (45,⟨[(43,.ro),(3,.ro)],[(3,.own)]⟩),
 (46,⟨[(35,.ro),(88,.ro)],[(35,.own)]⟩),
 (47,⟨[(35,.ro),(35,.ro)],[(35,.own)]⟩),
 (48,⟨[(43,.pm 0),(35,.ro)],[(4,.own)]⟩),
 (49,⟨[(88,.ro)],[(93,.own)]⟩),
 (50,⟨[(85,.ro)],[(85,.own)]⟩),
 (51,⟨[(97,.ro),(97,.ro)],[(4,.own)]⟩),
 (52,⟨[(88,.ro),(88,.ro)],[(4,.own)]⟩),
 (53,⟨[(37,.ro),(37,.ro)],[(4,.own)]⟩),
 (54,⟨[(38,.ro),(38,.ro)],[(4,.own)]⟩),
 (55,⟨[(96,.ro),(96,.ro)],[(4,.own)]⟩),
 (56,⟨[(68,.ro),(3,.ro)],[(3,.own)]⟩),
 (57,⟨[(69,.ro),(3,.ro)],[(3,.own)]⟩),
 (58,⟨[(71,.ro),(3,.ro)],[(3,.own)]⟩),
 (59,⟨[(72,.ro),(3,.ro)],[(3,.own)]⟩),
 (60,⟨[(120,.ro),(3,.ro)],[(3,.own)]⟩),
 (61,⟨[(78,.ro),(3,.ro)],[(3,.own)]⟩),
 (62,⟨[(36,.ro)],[(36,.own)]⟩),
 (63,⟨[(40,.ro)],[(40,.own)]⟩),
 (64,⟨[(96,.ro)],[(96,.own)]⟩),
 (65,⟨[(36,.ro),(3,.ro)],[(3,.own)]⟩),
 (66,⟨[(35,.ro)],[(4,.own)]⟩),
 (67,⟨[(40,.ro)],[(4,.own)]⟩),
 (68,⟨[(3,.ro),(3,.ro),(3,.ro)],[(4,.own)]⟩),
 (69,⟨[(36,.ro)],[(4,.own)]⟩),
 (70,⟨[(35,.ro),(35,.ro),(86,.ro)],[(35,.own)]⟩),
 (71,⟨[(35,.ro),(88,.ro)],[(35,.own)]⟩),
 (72,⟨[(35,.ro),(35,.ro)],[(30,.ro)]⟩),
 (73,⟨[(35,.ro),(9,.ro)],[(9,.own)]⟩),
 (74,⟨[(3,.ro),(35,.ro)],[(9,.own)]⟩),
 (75,⟨[(38,.ro),(9,.ro)],[(38,.own),(4,.own)]⟩),
 (76,⟨[(68,.ro)],[(84,.own)]⟩),
 (77,⟨[(69,.ro)],[(85,.own)]⟩),
 (78,⟨[(71,.ro)],[(86,.own)]⟩),
 (79,⟨[(72,.ro)],[(72,.own)]⟩),
 (80,⟨[(120,.ro)],[(144,.own)]⟩),
 (81,⟨[(78,.ro)],[(93,.own)]⟩),
 (82,⟨[(35,.ro)],[(35,.own)]⟩),
 (83,⟨[(36,.ro)],[(36,.own)]⟩),
 (84,⟨[(40,.ro)],[(40,.own)]⟩),
 (85,⟨[(30,.ro)],[(30,.own)]⟩),
 (86,⟨[(41,.ro)],[(41,.own)]⟩),
 (87,⟨[(35,.ro)],[(4,.own)]⟩),
 (88,⟨[(40,.ro)],[(4,.own)]⟩),
 (89,⟨[(3,.ro),(3,.ro),(3,.ro)],[(4,.own)]⟩),
 (90,⟨[(36,.ro),(3,.ro)],[(3,.own)]⟩),
 (91,⟨[(36,.ro)],[(4,.own)]⟩),
 (92,⟨[(36,.ro),(3,.vo (.cf 129))],[(3,.own)]⟩),
 (93,⟨[(88,.ro),(3,.vo .pr)],[(4,.own)]⟩),
 (94,⟨[(35,.ro),(35,.ro),(86,.ro)],[(35,.own)]⟩),
 (95,⟨[(35,.ro),(88,.ro)],[(35,.own)]⟩),
 (96,⟨[(35,.ro),(35,.ro)],[(30,.own)]⟩),
 (97,⟨[(35,.ro),(9,.ro)],[(9,.own)]⟩),
 (98,⟨[(3,.ro),(35,.ro)],[(9,.own)]⟩),
 (99,⟨[(38,.ro),(9,.ro)],[(38,.own),(4,.own)]⟩),
 (100,⟨[(84,.ro),(84,.ro)],[(4,.own)]⟩),
 (101,⟨[(85,.ro),(85,.ro)],[(4,.own)]⟩),
 (102,⟨[(86,.ro),(86,.ro)],[(4,.own)]⟩),
 (103,⟨[(72,.ro),(72,.ro)],[(4,.own)]⟩),
 (104,⟨[(144,.ro),(144,.ro)],[(4,.own)]⟩),
 (105,⟨[(93,.ro),(93,.ro)],[(4,.own)]⟩),
 (106,⟨[(160,.ro),(3,.ro)],[(3,.own)]⟩),
 (107,⟨[(162,.ro),(3,.ro)],[(3,.own)]⟩),
 (108,⟨[(165,.ro),(3,.ro)],[(3,.own)]⟩),
 (109,⟨[(88,.ro)],[(88,.own)]⟩),
 (110,⟨[(9,.ro)],[(4,.own)]⟩),
 (111,⟨[(40,.ro)],[(3,.own)]⟩),
 (112,⟨[(38,.ro)],[(4,.own)]⟩),
 (113,⟨[(86,.ro),(86,.ro)],[(4,.own)]⟩),
 (114,⟨[(35,.ro),(9,.ro),(9,.ro)],[(35,.own)]⟩),
 (115,⟨[(35,.ro),(93,.ro)],[(35,.own),(85,.own),(86,.own)]⟩),
 (116,⟨[(30,.ro),(9,.ro)],[(30,.ro)]⟩),
 (117,⟨[(3,.ro)],[(9,.own)]⟩),
 (118,⟨[(9,.ro)],[(9,.own),(4,.own)]⟩),
 (119,⟨[(9,.ro)],[(3,.own)]⟩),
 (120,⟨[(160,.ro)],[(136,.own)]⟩),
 (121,⟨[(162,.ro)],[(108,.own)]⟩),
 (122,⟨[(165,.ro)],[(138,.own)]⟩),
 (123,⟨[(88,.ro)],[(88,.own)]⟩),
 (124,⟨[(37,.ro)],[(37,.own)]⟩),
 (125,⟨[(41,.ro)],[(41,.own)]⟩),
 (126,⟨[(93,.ro)],[(93,.own)]⟩),
 (127,⟨[(9,.ro)],[(4,.own)]⟩),
 (128,⟨[(38,.ro)],[(4,.own)]⟩),
 (129,⟨[(88,.ro),(3,.vo .pr)],[(4,.own)]⟩),
 (130,⟨[(86,.ro),(86,.ro)],[(4,.own)]⟩),
 (131,⟨[(35,.own),(9,.ro),(9,.ro)],[(35,.own)]⟩),
 (132,⟨[(35,.ro),(93,.ro)],[(35,.own),(85,.own)]⟩),
 (136,⟨[(35,.ro),(9,.ro)],[(3,.own)]⟩),
 (138,⟨[(3,.ro)],[(9,.own)]⟩),
 (140,⟨[(9,.ro)],[(9,.own)]⟩),
 (143,⟨[(136,.ro),(136,.ro)],[(4,.own)]⟩),
 (144,⟨[(108,.ro),(108,.ro)],[(4,.own)]⟩),
 (145,⟨[(138,.ro),(138,.ro)],[(4,.own)]⟩),
 (146,⟨[(30,.ro),(30,.ro)],[(4,.own)]⟩),
 (147,⟨[(35,.ro),(3,.ro),(136,.ro)],[(35,.own),(108,.own),(86,.own)]⟩),
 (148,⟨[(86,.ro),(86,.ro)],[(86,.own)]⟩),
 (149,⟨[(3,.ro)],[(5,.own)]⟩),
 (150,⟨[(84,.ro)],[(84,.own)]⟩),
 (151,⟨[(72,.ro)],[(72,.own)]⟩),
 (152,⟨[(86,.ro)],[(86,.own)]⟩),
 (153,⟨[(30,.ro),(30,.ro)],[(4,.own)]⟩),
 (154,⟨[(35,.own),(9,.vo (.cf 155))],[(35,.own)]⟩),
 (155,⟨[(97,.ro),(9,.vo .pr)],[(4,.own)]⟩),
 (156,⟨[(35,.ro),(9,.vo (.cf 164))],[(3,.own)]⟩),
 (157,⟨[(97,.ro),(9,.vo .pr)],[(4,.own)]⟩),
 (158,⟨[(35,.own),(3,.ro),(35,.own)],[(35,.own)]⟩),
 (159,⟨[(35,.ro)],[(219,.own)]⟩),
 (160,⟨[(219,.pm 0),(93,.ro)],[(85,.own)]⟩),
 (164,⟨[(97,.ro),(9,.vo .pr)],[(4,.own)]⟩),
 (166,⟨[(3,.ro)],[(9,.own)]⟩),
 (167,⟨[(9,.ro)],[(9,.own),(4,.own)]⟩),
 (168,⟨[(9,.ro),(9,.ro)],[(4,.own)]⟩),
 (169,⟨[(219,.own),(3,.ro),(136,.ro)],[(219,.own),(108,.own)]⟩),
 (170,⟨[(35,.ro)],[(219,.own)]⟩),
 (171,⟨[(30,.ro),(9,.ro)],[(30,.own)]⟩),
 (172,⟨[(30,.ro),(9,.vo (.cf 173))],[(4,.own)]⟩),
 (173,⟨[(9,.ro),(9,.vo .pr)],[(4,.own)]⟩),
 (174,⟨[(9,.ro),(9,.ro)],[(4,.own)]⟩),
 (177,⟨[(219,.pm 0),(3,.ro),(136,.ro)],[(108,.own)]⟩),
 (183,⟨[(174,.ro)],[(9,.own)]⟩),
 (184,⟨[(9,.ro)],[(9,.own),(4,.own)]⟩),
 (185,⟨[(9,.ro),(9,.ro)],[(4,.own)]⟩),
 (186,⟨[(9,.ro),(9,.ro)],[(4,.own)]⟩),
 (187,⟨[(219,.own),(3,.ro)],[(219,.own),(3,.own)]⟩),
 (188,⟨[(136,.ro)],[(4,.own)]⟩),
 (189,⟨[(219,.own),(9,.ro)],[(219,.own),(3,.own),(3,.own)]⟩),
 (190,⟨[(219,.own),(9,.ro),(9,.ro)],[(219,.own),(3,.own)]⟩),
 (191,⟨[(219,.own),(9,.ro)],[(219,.own),(3,.own)]⟩),
 (192,⟨[(219,.own),(9,.ro),(9,.ro)],[(219,.own),(3,.own)]⟩),
 (193,⟨[(219,.own)],[(219,.own),(108,.own)]⟩),
 (194,⟨[(219,.own),(136,.ro)],[(219,.own),(108,.own)]⟩),
 (195,⟨[(219,.own)],[(219,.own),(3,.own),(3,.own)]⟩),
 (196,⟨[(219,.own),(3,.ro),(9,.ro)],[(219,.own),(3,.own)]⟩),
 (197,⟨[(219,.own),(3,.ro)],[(219,.own),(9,.own),(3,.own)]⟩),
 (198,⟨[(219,.own),(3,.ro),(3,.ro)],[(219,.own),(3,.own)]⟩),
 (199,⟨[(219,.own),(3,.ro)],[(219,.own),(3,.own),(3,.own)]⟩),
 (200,⟨[(219,.own),(3,.ro),(3,.ro)],[(219,.own),(3,.own)]⟩),
 (201,⟨[(219,.own),(3,.ro)],[(219,.own),(3,.own),(3,.own)]⟩),
 (202,⟨[(219,.own),(3,.ro),(3,.ro),(9,.ro)],[(219,.own),(3,.own)]⟩),
 (203,⟨[(219,.own),(3,.ro),(3,.ro)],[(219,.own),(9,.own),(3,.own)]⟩),
 (204,⟨[(219,.own),(9,.ro)],[(219,.own),(3,.own)]⟩),
 (205,⟨[(219,.own),(3,.ro),(136,.ro)],[(219,.own),(108,.own)]⟩),
 (206,⟨[(30,.ro),(9,.vo (.cf 334))],[(3,.own)]⟩),
 (207,⟨[(9,.ro),(9,.ro)],[(9,.own),(4,.own)]⟩),
 (208,⟨[(9,.ro),(9,.ro)],[(4,.own)]⟩),
 (209,⟨[(9,.ro),(9,.ro)],[(4,.own)]⟩),
 (211,⟨[(219,.pm 0),(3,.ro)],[(3,.own)]⟩),
 (212,⟨[(136,.ro)],[(4,.own)]⟩),
 (213,⟨[(219,.pm 0),(9,.ro)],[(3,.own),(3,.own)]⟩),
 (214,⟨[(219,.pm 0),(9,.ro),(9,.ro)],[(3,.own)]⟩),
 (215,⟨[(219,.pm 0),(9,.ro)],[(3,.own)]⟩),
 (216,⟨[(219,.pm 0),(9,.ro),(9,.ro)],[(3,.own)]⟩),
 (217,⟨[(219,.pm 0)],[(30,.own)]⟩),
 (218,⟨[(219,.pm 0),(136,.ro)],[(108,.own)]⟩),
 (219,⟨[(219,.pm 0)],[(3,.own),(3,.own)]⟩),
 (220,⟨[(219,.pm 0),(3,.ro),(9,.ro)],[(3,.own)]⟩),
 (221,⟨[(219,.pm 0),(3,.ro)],[(9,.own),(3,.own)]⟩),
 (222,⟨[(219,.pm 0),(3,.ro)],[(3,.own),(3,.own)]⟩),
 (223,⟨[(219,.pm 0),(3,.ro),(3,.ro)],[]⟩),
 (224,⟨[(219,.pm 0),(3,.ro),(3,.ro)],[(3,.own)]⟩),
 (225,⟨[(219,.pm 0),(3,.ro)],[]⟩),
 (226,⟨[(219,.pm 0),(3,.ro),(3,.ro)],[(3,.own),(3,.own)]⟩),
 (227,⟨[(219,.pm 0),(3,.ro)],[(72,.own)]⟩),
 (228,⟨[(219,.pm 0),(3,.ro),(3,.ro)],[(3,.own)]⟩),
 (229,⟨[(219,.pm 0),(3,.ro)],[(3,.own),(3,.own)]⟩),
 (230,⟨[(219,.pm 0),(3,.ro),(3,.ro)],[(3,.own)]⟩),
 (231,⟨[(219,.pm 0),(3,.ro)],[(3,.own),(3,.own)]⟩),
 (232,⟨[(219,.pm 0),(3,.ro),(3,.ro),(9,.ro)],[(3,.own)]⟩),
 (233,⟨[(219,.pm 0),(3,.ro),(3,.ro)],[(9,.own),(3,.own)]⟩),
 (234,⟨[(219,.pm 0),(9,.ro)],[(3,.own)]⟩),
 (249,⟨[(219,.own),(9,.ro)],[(219,.own),(3,.own)]⟩),
 (250,⟨[(3,.ro),(9,.ro)],[(9,.own)]⟩),
 (251,⟨[(9,.ro)],[(4,.own)]⟩),
 (252,⟨[(219,.own),(9,.ro)],[(219,.own),(3,.own)]⟩),
 (253,⟨[(219,.own),(9,.ro)],[(219,.own),(3,.own)]⟩),
 (254,⟨[(219,.own),(9,.ro),(3,.ro)],[(219,.own)]⟩),
 (255,⟨[(9,.ro),(3,.ro),(9,.ro)],[(9,.own)]⟩),
 (256,⟨[(219,.own),(9,.ro),(9,.ro)],[(219,.own)]⟩),
 (257,⟨[(219,.own),(9,.ro)],[(219,.own)]⟩),
 (258,⟨[(219,.own)],[(219,.own),(30,.own)]⟩),
 (259,⟨[(219,.own),(3,.ro),(3,.ro),(3,.ro)],[(219,.own),(9,.own)]⟩),
 (260,⟨[(219,.own),(3,.ro),(3,.ro),(9,.ro)],[(219,.own),(3,.own)]⟩),
 (261,⟨[(219,.own),(3,.ro),(3,.ro)],[(219,.own),(3,.own)]⟩),
 (262,⟨[(3,.ro),(9,.ro)],[(9,.own)]⟩),
 (263,⟨[(219,.own),(3,.ro)],[(219,.own),(4,.own)]⟩),
 (264,⟨[(3,.ro),(3,.ro)],[(9,.own)]⟩),
 (265,⟨[(219,.own),(9,.ro)],[(219,.own),(9,.own)]⟩),
 (266,⟨[(9,.ro)],[(9,.own),(4,.own)]⟩),
 (267,⟨[(3,.ro),(9,.ro)],[(9,.own)]⟩),
 (268,⟨[(3,.ro),(3,.ro)],[(9,.own)]⟩),
 (269,⟨[(219,.own),(9,.ro)],[(219,.own),(30,.own)]⟩),
 (270,⟨[(9,.ro)],[(3,.own)]⟩),
 (271,⟨[(3,.ro)],[(9,.own)]⟩),
 (272,⟨[(219,.own),(3,.ro)],[(219,.own),(3,.own),(3,.own)]⟩),
 (273,⟨[(219,.own),(3,.ro),(3,.ro)],[(219,.own)]⟩),
 (274,⟨[(219,.own),(3,.ro),(3,.ro)],[(219,.own),(3,.own)]⟩),
 (275,⟨[(219,.own),(3,.ro)],[(219,.own)]⟩),
 (276,⟨[(219,.own),(3,.ro),(3,.ro)],[(219,.own),(3,.own),(3,.own)]⟩),
 (277,⟨[(219,.own),(3,.ro)],[(219,.own),(72,.own)]⟩),
 (278,⟨[(9,.ro),(9,.ro)],[(9,.own),(4,.own)]⟩),
 (279,⟨[(9,.ro),(9,.ro)],[(4,.own)]⟩),
 (281,⟨[(219,.pm 0),(9,.ro)],[(3,.own)]⟩),
 (282,⟨[(3,.ro),(9,.ro)],[(9,.own)]⟩),
 (283,⟨[(9,.ro)],[(4,.own)]⟩),
 (284,⟨[(219,.pm 0),(9,.ro)],[(3,.own)]⟩),
 (285,⟨[(219,.pm 0),(9,.ro)],[(3,.own)]⟩),
 (286,⟨[(219,.pm 0),(9,.ro),(3,.ro)],[]⟩),
 (287,⟨[(9,.ro)],[(9,.own)]⟩),
 (288,⟨[(3,.ro)],[(9,.own)]⟩),
 (289,⟨[(219,.pm 0),(9,.ro),(9,.ro)],[]⟩),
 (290,⟨[(219,.pm 0),(9,.ro)],[]⟩),
 (291,⟨[(9,.ro),(3,.ro),(9,.ro)],[(9,.own)]⟩),
 (292,⟨[(219,.pm 0),(9,.ro)],[(30,.own)]⟩),
 (293,⟨[(219,.pm 0),(3,.ro),(3,.ro),(3,.ro)],[(9,.own)]⟩),
 (294,⟨[(219,.pm 0),(3,.ro),(3,.ro),(9,.ro)],[(3,.own)]⟩),
 (295,⟨[(219,.pm 0),(3,.ro),(3,.ro)],[(3,.own)]⟩),
 (296,⟨[(3,.ro),(9,.ro)],[(9,.own)]⟩),
 (297,⟨[(219,.pm 0),(3,.ro)],[(4,.own)]⟩),
 (298,⟨[(219,.pm 0),(9,.ro)],[(9,.own)]⟩),
 (299,⟨[(3,.ro)],[(9,.own)]⟩),
 (300,⟨[(219,.pm 0),(9,.ro)],[(9,.own)]⟩),
 (301,⟨[(9,.ro)],[(3,.own)]⟩),
 (302,⟨[(3,.ro),(9,.ro)],[(9,.own)]⟩),
 (313,⟨[(219,.own),(3,.ro)],[(219,.own),(3,.own)]⟩),
 (314,⟨[(219,.own),(3,.ro),(3,.ro)],[(219,.own),(9,.own)]⟩),
 (315,⟨[(219,.own),(3,.ro),(3,.ro),(9,.ro)],[(219,.own)]⟩),
 (316,⟨[(3,.ro),(3,.ro),(3,.ro)],[(3,.own)]⟩),
 (317,⟨[(3,.ro),(3,.ro)],[(9,.own)]⟩),
 (318,⟨[(5,.ro)],[(3,.own)]⟩),
 (319,⟨[(35,.ro),(9,.ro)],[(30,.own)]⟩),
 (320,⟨[(9,.ro)],[(3,.own),(4,.own)]⟩),
 (321,⟨[(9,.ro),(9,.ro)],[(4,.own)]⟩),
 (322,⟨[(30,.own),(9,.ro)],[(30,.own)]⟩),
 (323,⟨[(35,.ro),(9,.ro)],[(30,.own)]⟩),
 (324,⟨[(3,.ro)],[(9,.own)]⟩),
 (325,⟨[(219,.pm 0),(3,.ro),(3,.ro)],[(9,.own)]⟩),
 (326,⟨[(3,.ro),(3,.ro)],[(9,.own)]⟩),
 (327,⟨[(9,.ro)],[(9,.own)]⟩),
 (328,⟨[(9,.ro)],[(3,.own),(4,.own)]⟩),
 (334,⟨[(9,.ro),(9,.vo .pr)],[(4,.own)]⟩),
 (335,⟨[(30,.own),(3,.ro),(30,.own)],[(30,.own)]⟩),
 (336,⟨[(9,.ro)],[(9,.own),(4,.own)]⟩),
 (337,⟨[(9,.ro),(9,.ro)],[(9,.own),(4,.own)]⟩),
 (344,⟨[(9,.ro),(9,.ro)],[(9,.own),(4,.own)]⟩),
 (1156,⟨[(35,.ro),(9,.vo (.cf 157))],[(3,.own)]⟩),
 (2156,⟨[(35,.ro),(9,.vo (.cf 155))],[(3,.own)]⟩),
 (1092,⟨[(36,.ro),(3,.vo (.cf 93))],[(3,.own)]⟩),
 (2092,⟨[(36,.ro),(3,.vo (.cf 0))],[(3,.own)]⟩),
 (3092,⟨[(36,.ro),(702,.vo (.cf 0))],[(3,.own)]⟩),
 (4092,⟨[(36,.ro),(43,.vo (.cf 0))],[(3,.own)]⟩),
 (2206,⟨[(30,.ro),(9,.vo (.cf 173))],[(3,.own)]⟩)]
def anT:List (Nat×Nat×List Nat×List (Nat×Nat)):=[(9,31,[1],[]),
 (9,244,[0,1,5],[]),
 (10,31,[1],[]),
 (10,244,[0,1,5],[]),
 (12,31,[1],[]),
 (12,244,[0,1,5],[]),
 (13,31,[1],[]),
 (13,244,[0,1,5],[]),
 (15,15,[3],[]),
 (15,116,[0,3,4],[]),
 (16,15,[3],[]),
 (16,116,[0,3,4],[]),
 (18,15,[3],[]),
 (18,116,[0,3,4],[]),
 (19,15,[3],[]),
 (19,116,[0,3,4],[]),
 (21,15,[],[]),
 (21,116,[0,1,5],[]),
 (22,15,[],[]),
 (22,116,[0,1,5],[]),
 (24,15,[],[]),
 (24,116,[0,1,5],[]),
 (25,15,[],[]),
 (25,116,[0,1,5],[]),
 (28,31,[1],[]),
 (28,244,[0,1,5],[]),
 (31,127,[1,2,3],[]),
 (31,1012,[1,2,3,4],[]),
 (32,7,[1],[]),
 (32,52,[1,3],[]),
 (33,7,[],[]),
 (33,52,[1,2,5],[]),
 (35,31,[5],[]),
 (35,244,[1,5,6,7],[]),
 (37,15,[3],[]),
 (37,116,[1,3,4],[]),
 (40,15,[3],[]),
 (40,116,[0,3,4],[]),
 (44,15,[1],[]),
 (44,116,[1,22,23,24],[]),
 (47,15,[5],[]),
 (47,116,[1,5,10,11,12],[]),
 (49,15,[3],[]),
 (49,116,[1,3,7,8,9],[]),
 (53,15,[],[]),
 (53,116,[0,1,5],[]),
 (56,31,[1],[]),
 (56,244,[0,1,5],[]),
 (57,31,[1],[]),
 (57,244,[0,1,5],[]),
 (61,31,[1],[]),
 (61,244,[0,1,5],[]),
 (62,15,[3],[]),
 (62,116,[0,3,4],[]),
 (63,15,[2,3],[]),
 (63,116,[1,2,3,4],[]),
 (65,7,[],[]),
 (65,52,[0,1,5],[]),
 (66,7,[0],[]),
 (66,52,[0,3],[]),
 (67,7,[1],[]),
 (67,52,[1,3],[]),
 (69,7,[],[]),
 (69,52,[0,3],[]),
 (69,211,[0,3],[]),
 (69,3364,[0,3,4],[]),
 (70,15,[7],[]),
 (70,116,[1,5,7,8],[]),
 (72,15,[5],[]),
 (72,116,[0,1,5,6],[]),
 (72,467,[0,1,5,6],[]),
 (72,3731,[0,1,5,6,7],[]),
 (73,7,[],[]),
 (73,52,[0,1,5],[]),
 (74,31,[5],[]),
 (74,244,[1,5,6],[]),
 (76,15,[3],[]),
 (76,116,[0,3,4],[]),
 (77,15,[3],[]),
 (77,116,[0,3,4],[]),
 (79,15,[3],[]),
 (79,116,[0,3,4],[]),
 (81,15,[3],[]),
 (81,116,[0,3,4],[]),
 (83,15,[3],[]),
 (83,116,[3,6,7,8],[]),
 (84,15,[2,3],[]),
 (84,116,[2,3,13,14],[]),
 (86,15,[3],[]),
 (86,116,[3,8,9],[]),
 (87,7,[0],[]),
 (87,52,[0,5,6,7],[]),
 (88,15,[1],[]),
 (88,116,[1,26,27,28],[]),
 (91,7,[],[]),
 (91,52,[0,7,8,9],[]),
 (91,423,[0,7,8,9],[]),
 (91,13516,[0,4,7,8,9,16,17,18],[]),
 (92,7,[],[]),
 (92,52,[0,1,7,8],[]),
 (94,15,[7],[]),
 (94,116,[1,7,13,14,15],[]),
 (100,15,[],[]),
 (100,116,[0,1,5],[]),
 (101,15,[],[]),
 (101,116,[0,1,5],[]),
 (103,15,[],[]),
 (103,116,[0,1,5],[]),
 (105,15,[],[]),
 (105,116,[0,1,5],[]),
 (110,7,[0],[]),
 (110,52,[0,3],[]),
 (111,15,[3],[]),
 (111,116,[1,3,4],[]),
 (111,467,[1,3,4],[]),
 (114,63,[1,2,7,8],[]),
 (114,127,[7],[]),
 (114,500,[0,1,2,7,8,9],[]),
 (114,2003,[0,1,2,7,8,9],[]),
 (114,8009,[0,1,2,7,8,9],[]),
 (115,63,[0,6,7,8],[]),
 (115,500,[0,1,6,7,8,9],[]),
 (116,15,[0,1,5],[]),
 (116,56,[0,1,5],[]),
 (117,63,[3,4],[]),
 (117,248,[0,3,4],[]),
 (117,3979,[0,3,4,5],[]),
 (118,31,[4],[]),
 (118,244,[0,4,5],[]),
 (119,15,[3],[]),
 (119,116,[0,3,4],[]),
 (127,7,[0],[]),
 (127,52,[0,5,6],[]),
 (131,127,[0,2,4,7],[]),
 (146,7,[],[]),
 (146,52,[0,1,5],[]),
 (146,211,[0,1,5],[]),
 (146,3364,[0,1,5,6],[]),
 (148,15,[3,4,5],[]),
 (148,31,[4,5],[]),
 (148,116,[3,4,5,6],[]),
 (148,244,[3,4,5,7],[]),
 (153,7,[],[]),
 (153,52,[1,7,8,9],[]),
 (154,31,[0,5],[]),
 (154,244,[0,1,5,6],[]),
 (154,979,[0,1,5,6],[]),
 (156,7,[],[]),
 (156,52,[0,1,7,8],[]),
 (160,15,[0,5],[]),
 (160,116,[0,5,8,9,10],[]),
 (169,127,[3,6,7,9],[]),
 (169,1038335,[1,3,5,6,7,9,27,86],[]),
 (177,31,[0,6,7],[]),
 (177,251903,[0,1,5,6,7,24,77],[]),
 (177,1007604,[0,6,7,64,65,66],[]),
 (177,66035122164,[0,6,7,161,162,163],[]),
 (192,255,[1,2,3,6,8],[]),
 (193,31,[1,2,3,5],[]),
 (193,244,[1,2,3,4,5,6],[]),
 (194,63,[2,4,5,7],[]),
 (197,1023,[1,2,4,8,11],[]),
 (201,511,[2,4,9],[]),
 (201,4084,[1,2,4,7,8,9,10],[]),
 (201,16339,[1,2,4,7,8,9,10],[]),
 (203,63,[3,6,10],[]),
 (205,15,[3,6,7,8],[]),
 (205,120828,[3,6,7,8,9,10],[]),
 (206,7,[],[]),
 (206,52,[0,1,7,8],[]),
 (215,127,[0],[]),
 (216,63,[0,1,2,7],[]),
 (217,15,[0,3],[]),
 (217,116,[0,3,7,8,9],[]),
 (223,12,[0,1,2,11,12,13],[]),
 (227,15,[0,5],[]),
 (227,116,[0,1,5,11,12,13],[]),
 (227,935,[0,1,5,11,12,13],[]),
 (231,511,[0,7],[]),
 (231,4084,[0,6,7,25,26,27],[]),
 (231,32679,[0,6,7,25,26,27],[]),
 (232,31,[0,1,2,9],[]),
 (251,7,[0],[]),
 (251,52,[0,3],[]),
 (257,15,[2,4],[]),
 (257,116,[2,4,5,6],[]),
 (258,31,[1,2,5],[]),
 (258,244,[1,2,4,5,6],[]),
 (259,63,[1,2,4,8,11],[]),
 (259,255,[4,8,12],[]),
 (259,2036,[1,2,4,8,11,12,13],[]),
 (259,8147,[1,2,4,8,11,12,13],[]),
 (259,521372,[1,2,4,8,11,12,13,14,15],[]),
 (259,2085491,[1,2,4,8,11,12,13,14,15],[]),
 (260,127,[1,4,8,10,11],[]),
 (260,255,[4,8],[]),
 (260,1012,[1,2,3,4,8,10,11,12],[]),
 (260,4051,[1,2,3,4,8,10,11,12],[]),
 (260,129615,[1,2,3,4,8,10,11,12,14],[]),
 (260,1036916,[1,2,3,4,8,10,11,12,14,15],[]),
 (260,4147667,[1,2,3,4,8,10,11,12,14,15],[]),
 (260,66362663,[1,2,3,4,8,10,11,12,14,15,16],[]),
 (260,265450648,[1,2,3,4,8,10,11,12,14,15,16],[]),
 (261,63,[1,2,3,6,8,9],[]),
 (261,127,[1,2,3,6],[]),
 (261,504,[1,2,3,6,8,9],[]),
 (266,31,[4],[]),
 (266,244,[0,4,5],[]),
 (273,15,[3,6],[]),
 (273,116,[1,2,3,6,7,8],[]),
 (277,31,[2,4,7],[]),
 (277,244,[1,2,4,6,7,8],[]),
 (277,979,[1,2,4,6,7,8],[]),
 (283,7,[0],[]),
 (283,52,[0,6,7],[]),
 (286,7,[0,1,6],[]),
 (290,12,[0,8,9,10],[]),
 (293,127,[0,11],[]),
 (293,1012,[0,1,2,10,11,12],[]),
 (293,4051,[0,1,2,10,11,12],[]),
 (294,127,[0,1,9,10],[]),
 (294,255,[0],[]),
 (294,1012,[0,1,2,3,9,10,11],[]),
 (294,4051,[0,1,2,3,9,10,11],[]),
 (294,64807,[0,1,2,3,9,10,11,12],[]),
 (294,518452,[0,1,2,3,9,10,11,12,13,14],[]),
 (294,2073811,[0,1,2,3,9,10,11,12,13,14],[]),
 (294,8295241,[0,1,2,3,9,10,11,12,13,14],[]),
 (294,33180960,[0,1,2,3,9,10,11,12,13,14],[]),
 (295,63,[0,1,2,7,8],[]),
 (295,127,[0,1,2],[]),
 (295,504,[0,1,2,7,8],[]),
 (319,15,[5],[]),
 (319,116,[0,1,5,6],[]),
 (319,467,[0,1,5,6],[]),
 (320,31,[0,4],[]),
 (320,244,[0,4,5],[]),
 (323,15,[5],[]),
 (323,116,[1,5,8,9,10],[]),
 (323,935,[1,5,8,9,10],[])]
def isx0 (f:Nat):Bool:=Nat.beq f 183||Nat.beq f 96||Nat.beq f 328||Nat.beq f 98||Nat.beq f 336||Nat.beq f 50||Nat.beq f 150||Nat.beq f 82||Nat.beq f 125||Nat.beq f 124||Nat.beq f 126||Nat.beq f 151||Nat.beq f 85||Nat.beq f 158||Nat.beq f 335||Nat.beq f 166
noncomputable def xt0: ∀ f,HL τ0 ((sgL sgT f).ps.map (·.1))→Option (HL τ0 ((sgL sgT f).outs.map (·.1)))
 | 183=>hexX
 | 96=>diffX
 | 328=>readX
 | 98=>recX
 | 336=>unhexX
 | 50=>cloneX
 | 150=>cloneX
 | 82=>cloneX
 | 125=>cloneX
 | 124=>cloneX
 | 126=>cloneX
 | 151=>cloneX
 | 85=>cloneX
 | 158=>insX
 | 335=>insX
 | 166=>itoaX
 | _=>fun _=>none
noncomputable def Z0:Lw τ0:=⟨O0,ti,zr,sgL sgT,fun f=>annL anT (bs0 f),fun f=>ocL [(45,[3]),(90,[3]),(322,[3]),(136,[3]),(131,[4]),(154,[38,41])] (bs0 f),fun f=>hdL [(147,2,[(4,4294967296)]),(259,19,[(2,16)]),(169,43,[(1,16)]),(194,11,[(1,16)]),(193,7,[(1,16)]),(205,19,[(1,16)])] (bs0 f),fun f=>vrL [(45,92,1092),(131,156,1156),(172,206,2206),(154,156,2156)] f,bs0,isx0,xt0⟩
noncomputable def F0:Nat→Option Fx:=fun f=>fxOf Tryz.prog (bs0 f)
end Go.Proofs.YtapfpflmcgfbkaaGreatDoor.Ri

namespace Go.Proofs.YtapfpflmcgfbkaaGreatDoor.Ri
open Go.Proofs.YtapfpflmcgfbkaaGreatDoor.Fw
open Go.RowKit
set_option linter.unusedVariables false
set_option maxRecDepth 100000
def gd {α:Type} (c:Bool) (k:Option α):Option α:=bif c then k else none
def ng {α:Type} (c:Bool) (k:Option α):Option α:=bif c then none else k
def tx (l:List UInt8):ByteArray:=⟨l.toArray⟩
noncomputable def Dn (f:Nat) (x:InT τ0 (Z0.sg f)):Option (OutT τ0 (Z0.sg f)):=Den Z0 F0 f x
noncomputable def Ln (f p:Nat) (s:Sx τ0×Nat):Option (OutT τ0 (Z0.sg f)):=Run Z0 F0 f p s.1 s.2
noncomputable def DE (f:Nat) (x:InT τ0 (Z0.sg f)):Option (OutT τ0 (Z0.sg f)):=begF Z0 F0 (fun f p σ nx=>runF Z0 F0 (Den Z0 F0) (Run Z0 F0) f p σ nx) f x
noncomputable def LE (f p:Nat) (s:Sx τ0×Nat):Option (OutT τ0 (Z0.sg f)):=runF Z0 F0 (Den Z0 F0) (Run Z0 F0) f p s.1 s.2
theorem Dn_eq (f:Nat) (x:InT τ0 (Z0.sg f)):Dn f x=DE f x:=Den_eq Z0 F0 f x
theorem Ln_eq (f p:Nat) (s:Sx τ0×Nat):Ln f p s=LE f p s:=Run_eq' Z0 F0 f p s.1 s.2
noncomputable def D27 (x0:Int) (x1:Int) (x2:Int):Option (Bool×Unit):=Dn 68 (x0,x1,x2,())
noncomputable def D40 (x0:Fw.Kernel):Option (Fw.Kernel×Unit):=Dn 31 (x0,())
noncomputable def D52 (x0:Fw.Mach) (x1:Int):Option (Fw.Mach×Int×Int×Unit):=Dn 272 (x0,x1,())
noncomputable def D53 (x0:List Fw.Cell):Option (Fw.Mach×Unit):=Dn 170 (x0,())
noncomputable def D54 (x0:List Fw.Tx):Option ((List Fw.Tx)×Unit):=Dn 62 (x0,())
noncomputable def D55 (x0:Fw.Disk):Option (Fw.Disk×Unit):=Dn 63 (x0,())
noncomputable def D56 (x0:Fw.Entry):Option (Fw.Entry×Unit):=Dn 64 (x0,())
noncomputable def D57 (x0:Fw.Kernel):Option (Bool×Unit):=Dn 32 (x0,())
noncomputable def D58 (x0:Fw.Kernel) (x1:Int):Option (Int×Unit):=Dn 33 (x0,x1,())
noncomputable def D64 (x0:List Fw.Cell) (x1:Int) (x2:Fw.Call):Option ((List Fw.Cell)×Fw.Answer×Fw.Touch×Unit):=Dn 147 (x0,x1,x2,())
noncomputable def D66 (x0:List Fw.Cell) (x1:List Fw.Cell):Option ((List Fw.Cell)×Unit):=Dn 35 (x0,x1,())
noncomputable def D69 (x0:Fw.Kernel) (x1:List Fw.Cell):Option (Fw.Kernel×Bool×Unit):=Dn 36 (x0,x1,())
noncomputable def D84 (x0:Fw.Kernel) (x1:Int):Option (Fw.Kernel×Int×Unit):=Dn 14 (x0,x1,())
noncomputable def D88 (x0:Fw.Mach) (x1:ByteArray):Option (Fw.Mach×Int×Unit):=Dn 249 (x0,x1,())
noncomputable def D89 (x0:Fw.Mach) (x1:ByteArray):Option (Fw.Mach×Int×Unit):=Dn 253 (x0,x1,())
noncomputable def D90 (x0:Fw.Mach) (x1:ByteArray) (x2:Int):Option (Fw.Mach×Unit):=Dn 254 (x0,x1,x2,())
noncomputable def D91 (x0:Int) (x1:ByteArray):Option (ByteArray×Unit):=Dn 250 (x0,x1,())
noncomputable def D92 (x0:Fw.Tx):Option (Fw.Tx×Unit):=Dn 109 (x0,())
noncomputable def D93 (x0:List Fw.Tx) (x1:Int):Option (Int×Unit):=Dn 65 (x0,x1,())
noncomputable def D94 (x0:List Fw.Cell):Option (Bool×Unit):=Dn 66 (x0,())
noncomputable def D95 (x0:Fw.Disk):Option (Bool×Unit):=Dn 67 (x0,())
noncomputable def D96 (x0:List Fw.Tx):Option (Bool×Unit):=Dn 69 (x0,())
noncomputable def D98 (x0:List Fw.Cell) (x1:Fw.Tx):Option ((List Fw.Cell)×Unit):=Dn 71 (x0,x1,())
noncomputable def D100 (x0:Fw.Touch) (x1:Fw.Touch):Option (Fw.Touch×Unit):=Dn 148 (x0,x1,())
noncomputable def D101 (x0:Fw.Mach) (x1:Int) (x2:Fw.Call):Option (Fw.Mach×Fw.Answer×Unit):=Dn 169 (x0,x1,x2,())
noncomputable def D102 (x0:Fw.Touch) (x1:Fw.Touch):Option (Bool×Unit):=Dn 113 (x0,x1,())
noncomputable def D103 (x0:List Fw.Cell) (x1:List Fw.Cell):Option ((List ByteArray)×Unit):=Dn 72 (x0,x1,())
noncomputable def D104 (x0:List Fw.Cell) (x1:ByteArray):Option (ByteArray×Unit):=Dn 73 (x0,x1,())
noncomputable def D106 (x0:Int) (x1:Int) (x2:Int):Option (Int×Unit):=Dn 316 (x0,x1,x2,())
noncomputable def D108 (x0:Int) (x1:List Fw.Cell):Option (ByteArray×Unit):=Dn 74 (x0,x1,())
noncomputable def D109 (x0:Fw.Journal) (x1:ByteArray):Option (Fw.Journal×Bool×Unit):=Dn 75 (x0,x1,())
noncomputable def D110 (x0:Fw.Journal):Option (Bool×Unit):=Dn 112 (x0,())
noncomputable def D111 (x0:ByteArray):Option (Int×Unit):=Dn 270 (x0,())
noncomputable def D112 (x0:ByteArray) (x1:Int) (x2:ByteArray):Option (ByteArray×Unit):=Dn 255 (x0,x1,x2,())
noncomputable def D113 (x0:ByteArray):Option (ByteArray×Bool×Unit):=Dn 266 (x0,())
noncomputable def D114 (x0:Fw.Disk):Option (Int×Unit):=Dn 111 (x0,())
noncomputable def D122 (x0:Int):Option (ByteArray×Unit):=Dn 117 (x0,())
noncomputable def D128 (x0:List Fw.Cell) (x1:Fw.Tx):Option ((List Fw.Cell)×Unit):=Dn 34 (x0,x1,())
noncomputable def D129 (x0:Fw.Tx):Option ((List Fw.Step)×Unit):=Dn 37 (x0,())
noncomputable def D130 (x0:Fw.Mach) (x1:ByteArray):Option (Fw.Mach×ByteArray×Unit):=Dn 265 (x0,x1,())
noncomputable def D131 (x0:Fw.Mach) (x1:ByteArray) (x2:ByteArray):Option (Fw.Mach×Unit):=Dn 256 (x0,x1,x2,())
noncomputable def D132 (x0:ByteArray):Option (Bool×Unit):=Dn 110 (x0,())
noncomputable def D134 (x0:List Fw.Cell) (x1:List Fw.Step):Option ((List Fw.Cell)×(List Fw.Answer)×Fw.Touch×Unit):=Dn 115 (x0,x1,())
noncomputable def D135 (x0:List ByteArray) (x1:ByteArray):Option ((List ByteArray)×Unit):=Dn 171 (x0,x1,())
noncomputable def D136 (x0:Fw.Mach) (x1:Int):Option (Fw.Mach×Int×Unit):=Dn 187 (x0,x1,())
noncomputable def D137 (x0:Fw.Call):Option (Bool×Unit):=Dn 188 (x0,())
noncomputable def D138 (x0:Fw.Mach) (x1:ByteArray):Option (Fw.Mach×Int×Int×Unit):=Dn 189 (x0,x1,())
noncomputable def D139 (x0:Fw.Mach) (x1:ByteArray) (x2:ByteArray):Option (Fw.Mach×Int×Unit):=Dn 190 (x0,x1,x2,())
noncomputable def D140 (x0:Fw.Mach) (x1:ByteArray):Option (Fw.Mach×Int×Unit):=Dn 191 (x0,x1,())
noncomputable def D141 (x0:Fw.Mach) (x1:ByteArray) (x2:ByteArray):Option (Fw.Mach×Int×Unit):=Dn 192 (x0,x1,x2,())
noncomputable def D142 (x0:Fw.Mach):Option (Fw.Mach×Fw.Answer×Unit):=Dn 193 (x0,())
noncomputable def D143 (x0:Fw.Mach) (x1:Fw.Call):Option (Fw.Mach×Fw.Answer×Unit):=Dn 194 (x0,x1,())
noncomputable def D144 (x0:Fw.Mach):Option (Fw.Mach×Int×Int×Unit):=Dn 195 (x0,())
noncomputable def D145 (x0:Fw.Mach) (x1:Int) (x2:ByteArray):Option (Fw.Mach×Int×Unit):=Dn 196 (x0,x1,x2,())
noncomputable def D146 (x0:Fw.Mach) (x1:Int):Option (Fw.Mach×ByteArray×Int×Unit):=Dn 197 (x0,x1,())
noncomputable def D147 (x0:Fw.Mach) (x1:Int) (x2:Int):Option (Fw.Mach×Int×Unit):=Dn 198 (x0,x1,x2,())
noncomputable def D148 (x0:Fw.Mach) (x1:Int):Option (Fw.Mach×Int×Int×Unit):=Dn 199 (x0,x1,())
noncomputable def D149 (x0:Fw.Mach) (x1:Int) (x2:Int):Option (Fw.Mach×Int×Unit):=Dn 200 (x0,x1,x2,())
noncomputable def D150 (x0:Fw.Mach) (x1:Int):Option (Fw.Mach×Int×Int×Unit):=Dn 201 (x0,x1,())
noncomputable def D151 (x0:Fw.Mach) (x1:Int) (x2:Int) (x3:ByteArray):Option (Fw.Mach×Int×Unit):=Dn 202 (x0,x1,x2,x3,())
noncomputable def D152 (x0:Fw.Mach) (x1:Int) (x2:Int):Option (Fw.Mach×ByteArray×Int×Unit):=Dn 203 (x0,x1,x2,())
noncomputable def D153 (x0:Fw.Mach) (x1:ByteArray):Option (Fw.Mach×Int×Unit):=Dn 204 (x0,x1,())
noncomputable def D154 (x0:Fw.Mach) (x1:Int) (x2:Fw.Call):Option (Fw.Mach×Fw.Answer×Unit):=Dn 205 (x0,x1,x2,())
noncomputable def D155 (x0:List ByteArray) (x1:List ByteArray):Option (Bool×Unit):=Dn 146 (x0,x1,())
noncomputable def D156 (x0:List ByteArray) (x1:ByteArray):Option ((List ByteArray)×Unit):=Dn 116 (x0,x1,())
noncomputable def D157 (x0:ByteArray):Option (ByteArray×Bool×Unit):=Dn 118 (x0,())
noncomputable def D158 (x0:ByteArray):Option (Int×Unit):=Dn 119 (x0,())
noncomputable def D159 (x0:ByteArray):Option (Int×Bool×Unit):=Dn 320 (x0,())
noncomputable def D160 (x0:UInt8):Option (Int×Unit):=Dn 318 (x0,())
noncomputable def D162 (x0:List Fw.Cell) (x1:ByteArray) (x2:ByteArray):Option ((List Fw.Cell)×Unit):=Dn 114 (x0,x1,x2,())
noncomputable def D163 (x0:Int):Option (UInt8×Unit):=Dn 149 (x0,())
noncomputable def D164 (x0:List Fw.Cell) (x1:List Fw.Cell) (x2:Fw.Touch):Option ((List Fw.Cell)×Unit):=Dn 70 (x0,x1,x2,())
noncomputable def D165 (x0:ByteArray):Option (Bool×Unit):=Dn 251 (x0,())
noncomputable def D166 (x0:Fw.Mach) (x1:ByteArray):Option (Fw.Mach×Int×Unit):=Dn 252 (x0,x1,())
noncomputable def D167 (x0:Fw.Mach) (x1:ByteArray):Option (Fw.Mach×Unit):=Dn 257 (x0,x1,())
noncomputable def D168 (x0:Fw.Mach):Option (Fw.Mach×(List ByteArray)×Unit):=Dn 258 (x0,())
noncomputable def D169 (x0:Fw.Mach) (x1:Int) (x2:Int) (x3:Int):Option (Fw.Mach×ByteArray×Unit):=Dn 259 (x0,x1,x2,x3,())
noncomputable def D170 (x0:Fw.Mach) (x1:Int) (x2:Int) (x3:ByteArray):Option (Fw.Mach×Int×Unit):=Dn 260 (x0,x1,x2,x3,())
noncomputable def D171 (x0:Fw.Mach) (x1:Int) (x2:Int):Option (Fw.Mach×Int×Unit):=Dn 261 (x0,x1,x2,())
noncomputable def D172 (x0:Int) (x1:ByteArray):Option (ByteArray×Unit):=Dn 262 (x0,x1,())
noncomputable def D173 (x0:Fw.Mach) (x1:Int):Option (Fw.Mach×Bool×Unit):=Dn 263 (x0,x1,())
noncomputable def D174 (x0:Int) (x1:Int):Option (ByteArray×Unit):=Dn 264 (x0,x1,())
noncomputable def D175 (x0:Int) (x1:ByteArray):Option (ByteArray×Unit):=Dn 267 (x0,x1,())
noncomputable def D176 (x0:Int) (x1:Int):Option (ByteArray×Unit):=Dn 268 (x0,x1,())
noncomputable def D177 (x0:Fw.Mach) (x1:ByteArray):Option (Fw.Mach×(List ByteArray)×Unit):=Dn 269 (x0,x1,())
noncomputable def D178 (x0:Int):Option (ByteArray×Unit):=Dn 271 (x0,())
noncomputable def D179 (x0:Fw.Mach) (x1:Int) (x2:Int):Option (Fw.Mach×Unit):=Dn 273 (x0,x1,x2,())
noncomputable def D180 (x0:Fw.Mach) (x1:Int) (x2:Int):Option (Fw.Mach×Int×Unit):=Dn 274 (x0,x1,x2,())
noncomputable def D181 (x0:Fw.Mach) (x1:Int):Option (Fw.Mach×Unit):=Dn 275 (x0,x1,())
noncomputable def D182 (x0:Fw.Mach) (x1:Int) (x2:Int):Option (Fw.Mach×Int×Int×Unit):=Dn 276 (x0,x1,x2,())
noncomputable def D183 (x0:Fw.Mach) (x1:Int):Option (Fw.Mach×(List Int)×Unit):=Dn 277 (x0,x1,())
noncomputable def D184 (x0:ByteArray) (x1:ByteArray):Option (Bool×Unit):=Dn 168 (x0,x1,())
noncomputable def D185 (x0:Fw.Mach) (x1:Int):Option (Fw.Mach×Int×Unit):=Dn 313 (x0,x1,())
noncomputable def D186 (x0:Fw.Mach) (x1:Int) (x2:Int):Option (Fw.Mach×ByteArray×Unit):=Dn 314 (x0,x1,x2,())
noncomputable def D187 (x0:Fw.Mach) (x1:Int) (x2:Int) (x3:ByteArray):Option (Fw.Mach×Unit):=Dn 315 (x0,x1,x2,x3,())
noncomputable def D188 (x0:Int) (x1:Int):Option (ByteArray×Unit):=Dn 317 (x0,x1,())
noncomputable def D189 (x0:List Fw.Cell) (x1:ByteArray):Option ((List ByteArray)×Unit):=Dn 319 (x0,x1,())
noncomputable def D190 (x0:ByteArray):Option (ByteArray×Bool×Unit):=Dn 184 (x0,())
noncomputable def D191 (x0:ByteArray) (x1:ByteArray):Option (Bool×Unit):=Dn 185 (x0,x1,())
noncomputable def D192 (x0:ByteArray) (x1:ByteArray):Option (Bool×Unit):=Dn 186 (x0,x1,())
noncomputable def D2057 (x0:Fw.Kernel) (x1:Int):Option (Bool×Unit):=Dn 5 (x0,x1,())
noncomputable def D2058 (x0:Fw.Kernel) (x1:Int):Option (Bool×Unit):=Dn 7 (x0,x1,())
noncomputable def D2070 (x0:Fw.Kernel) (x1:Int):Option (Fw.Kernel×Int×Unit):=Dn 20 (x0,x1,())
noncomputable def D2074 (x0:Fw.Kernel):Option (Fw.Kernel×Unit):=Dn 43 (x0,())
noncomputable def D2075 (x0:Fw.Kernel):Option (Bool×Unit):=Dn 44 (x0,())
noncomputable def D2078 (x0:List Fw.Cell) (x1:ByteArray):Option (ByteArray×Unit):=Dn 97 (x0,x1,())
noncomputable def D2079 (x0:Int) (x1:ByteArray):Option (ByteArray×Unit):=Dn 282 (x0,x1,())
noncomputable def D2080 (x0:Int):Option (ByteArray×Unit):=Dn 138 (x0,())
noncomputable def D2085 (x0:Fw.Kernel) (x1:Int):Option (Int×Unit):=Dn 45 (x0,x1,())
noncomputable def D2090 (x0:Int) (x1:Int) (x2:Int):Option (Bool×Unit):=Dn 89 (x0,x1,x2,())
noncomputable def D2099 (x0:List Fw.Cell) (x1:List Fw.Step):Option ((List Fw.Cell)×(List Fw.Answer)×Unit):=Dn 132 (x0,x1,())
noncomputable def D2106 (x0:ByteArray):Option (ByteArray×Bool×Unit):=Dn 167 (x0,())
noncomputable def D2115 (x0:List Fw.Entry):Option ((List Fw.Entry)×Unit):=Dn 86 (x0,())
noncomputable def D2143 (x0:Int) (x1:List Fw.Cell):Option (ByteArray×Unit):=Dn 98 (x0,x1,())
noncomputable def D2144 (x0:List Fw.Cell) (x1:List Fw.Cell):Option ((List Fw.Cell)×Unit):=Dn 47 (x0,x1,())
noncomputable def D2161 (x0:List Fw.Tx) (x1:Int):Option (Int×Unit):=Dn 90 (x0,x1,())
noncomputable def D2162 (x0:Fw.Tx):Option (Fw.Tx×Unit):=Dn 123 (x0,())
noncomputable def D2163 (x0:List Fw.Cell) (x1:Fw.Tx):Option ((List Fw.Cell)×Unit):=Dn 46 (x0,x1,())
noncomputable def D2164 (x0:Fw.Kernel) (x1:List Fw.Cell):Option (Bool×Fw.Kernel×Unit):=Dn 48 (x0,x1,())
noncomputable def D2165 (x0:Fw.Tx):Option ((List Fw.Step)×Unit):=Dn 49 (x0,())
noncomputable def D2166 (x0:List Fw.Answer):Option ((List Fw.Answer)×Unit):=Dn 50 (x0,())
noncomputable def D2167 (x0:Fw.Mach) (x1:Int):Option (Int×Int×Fw.Mach×Unit):=Dn 222 (x0,x1,())
noncomputable def D2168 (x0:List Fw.Cell):Option ((List Fw.Cell)×Unit):=Dn 82 (x0,())
noncomputable def D2171 (x0:List Fw.Tx):Option ((List Fw.Tx)×Unit):=Dn 83 (x0,())
noncomputable def D2172 (x0:Fw.Disk):Option (Fw.Disk×Unit):=Dn 84 (x0,())
noncomputable def D2173 (x0:List ByteArray):Option ((List ByteArray)×Unit):=Dn 85 (x0,())
noncomputable def D2174 (x0:List Fw.Cell):Option (Bool×Unit):=Dn 87 (x0,())
noncomputable def D2175 (x0:Fw.Disk):Option (Bool×Unit):=Dn 88 (x0,())
noncomputable def D2176 (x0:List Fw.Tx):Option (Bool×Unit):=Dn 91 (x0,())
noncomputable def D2180 (x0:List Fw.Cell) (x1:ByteArray):Option (Int×Unit):=Dn 136 (x0,x1,())
noncomputable def D2181 (x0:ByteArray) (x1:Int) (x2:ByteArray):Option (ByteArray×Unit):=Dn 291 (x0,x1,x2,())
noncomputable def D2182 (x0:Int):Option (ByteArray×Unit):=Dn 166 (x0,())
noncomputable def D2183 (x0:List Fw.Tx) (x1:Int):Option (Int×Unit):=Dn 92 (x0,x1,())
noncomputable def D2184 (x0:Fw.Tx) (x1:Int):Option (Bool×Unit):=Dn 93 (x0,x1,())
noncomputable def D2188 (x0:List Fw.Cell) (x1:Fw.Tx):Option ((List Fw.Cell)×Unit):=Dn 95 (x0,x1,())
noncomputable def D2192 (x0:Fw.Journal):Option (Bool×Unit):=Dn 128 (x0,())
noncomputable def D2194 (x0:ByteArray):Option (ByteArray×Unit):=Dn 327 (x0,())
noncomputable def D2202 (x0:List Fw.Cell):Option (Fw.Mach×Unit):=Dn 159 (x0,())
noncomputable def D2203 (x0:Fw.Mach) (x1:List Fw.Step):Option ((List Fw.Answer)×Fw.Mach×Unit):=Dn 160 (x0,x1,())
noncomputable def D2213 (x0:List UInt8):Option (ByteArray×Unit):=Dn 183 (x0,())
noncomputable def D2224 (x0:List Fw.Entry):Option ((List Fw.Entry)×Unit):=Dn 125 (x0,())
noncomputable def D2225 (x0:List Fw.Step):Option ((List Fw.Step)×Unit):=Dn 126 (x0,())
noncomputable def D2254 (x0:ByteArray):Option (Bool×Unit):=Dn 127 (x0,())
noncomputable def D2256 (x0:ByteArray):Option (ByteArray×Unit):=Dn 140 (x0,())
noncomputable def D2258 (x0:List Fw.Cell) (x1:List Fw.Cell):Option ((List ByteArray)×Unit):=Dn 96 (x0,x1,())
noncomputable def D2289 (x0:Fw.Tx) (x1:Int):Option (Bool×Unit):=Dn 129 (x0,x1,())
noncomputable def D2290 (x0:List Fw.Call):Option ((List Fw.Call)×Unit):=Dn 150 (x0,())
noncomputable def D2291 (x0:List Int):Option ((List Int)×Unit):=Dn 151 (x0,())
noncomputable def D2292 (x0:Fw.Touch):Option (Fw.Touch×Unit):=Dn 152 (x0,())
noncomputable def D2293 (x0:List Fw.Cell) (x1:List Fw.Cell) (x2:Fw.Touch):Option ((List Fw.Cell)×Unit):=Dn 94 (x0,x1,x2,())
noncomputable def D2294 (x0:Fw.Journal) (x1:ByteArray):Option (Fw.Journal×Bool×Unit):=Dn 99 (x0,x1,())
noncomputable def D2295 (x0:Fw.Mach) (x1:ByteArray):Option (Int×Fw.Mach×Unit):=Dn 281 (x0,x1,())
noncomputable def D2296 (x0:Fw.Mach) (x1:ByteArray):Option (Int×Fw.Mach×Unit):=Dn 285 (x0,x1,())
noncomputable def D2297 (x0:Fw.Mach) (x1:ByteArray) (x2:Int):Option (Fw.Mach×Unit):=Dn 286 (x0,x1,x2,())
noncomputable def D2301 (x0:List Fw.Slot):Option ((List Fw.Slot)×Unit):=Dn 124 (x0,())
noncomputable def D2302 (x0:Fw.Touch) (x1:Fw.Touch):Option (Bool×Unit):=Dn 130 (x0,x1,())
noncomputable def D2303 (x0:List Fw.Cell) (x1:ByteArray):Option (Int×Unit):=Dn 156 (x0,x1,())
noncomputable def D2304 (x0:Fw.Cell) (x1:ByteArray):Option (Bool×Unit):=Dn 164 (x0,x1,())
noncomputable def D2308 (x0:Fw.Mach) (x1:Int) (x2:Fw.Call):Option (Fw.Answer×Fw.Mach×Unit):=Dn 177 (x0,x1,x2,())
noncomputable def D2310 (x0:List ByteArray) (x1:ByteArray):Option ((List ByteArray)×Unit):=Dn 322 (x0,x1,())
noncomputable def D2311 (x0:ByteArray):Option (Int×Unit):=Dn 301 (x0,())
noncomputable def D2312 (x0:ByteArray) (x1:ByteArray):Option (ByteArray×Bool×Unit):=Dn 337 (x0,x1,())
noncomputable def D2313 (x0:ByteArray):Option (ByteArray×Bool×Unit):=Dn 336 (x0,())
noncomputable def D2319 (x0:List Fw.Cell) (x1:ByteArray) (x2:ByteArray):Option ((List Fw.Cell)×Unit):=Dn 131 (x0,x1,x2,())
noncomputable def D2344 (x0:List ByteArray) (x1:ByteArray):Option (Bool×Unit):=Dn 172 (x0,x1,())
noncomputable def D2387 (x0:Fw.Mach) (x1:ByteArray):Option (ByteArray×Fw.Mach×Unit):=Dn 300 (x0,x1,())
noncomputable def D2388 (x0:Fw.Mach) (x1:ByteArray) (x2:ByteArray):Option (Fw.Mach×Unit):=Dn 289 (x0,x1,x2,())
noncomputable def D2392 (x0:List ByteArray) (x1:List ByteArray):Option (Bool×Unit):=Dn 153 (x0,x1,())
noncomputable def D2394 (x0:Fw.Mach) (x1:Int):Option (Int×Fw.Mach×Unit):=Dn 211 (x0,x1,())
noncomputable def D2395 (x0:Fw.Call):Option (Bool×Unit):=Dn 212 (x0,())
noncomputable def D2396 (x0:Fw.Mach) (x1:ByteArray):Option (Int×Int×Fw.Mach×Unit):=Dn 213 (x0,x1,())
noncomputable def D2397 (x0:Fw.Mach) (x1:ByteArray) (x2:ByteArray):Option (Int×Fw.Mach×Unit):=Dn 214 (x0,x1,x2,())
noncomputable def D2398 (x0:Fw.Mach) (x1:ByteArray):Option (Int×Fw.Mach×Unit):=Dn 215 (x0,x1,())
noncomputable def D2399 (x0:Fw.Mach) (x1:ByteArray) (x2:ByteArray):Option (Int×Fw.Mach×Unit):=Dn 216 (x0,x1,x2,())
noncomputable def D2400 (x0:Fw.Mach):Option ((List ByteArray)×Fw.Mach×Unit):=Dn 217 (x0,())
noncomputable def D2401 (x0:Fw.Mach) (x1:Fw.Call):Option (Fw.Answer×Fw.Mach×Unit):=Dn 218 (x0,x1,())
noncomputable def D2402 (x0:Fw.Mach):Option (Int×Int×Fw.Mach×Unit):=Dn 219 (x0,())
noncomputable def D2403 (x0:Fw.Mach) (x1:Int) (x2:ByteArray):Option (Int×Fw.Mach×Unit):=Dn 220 (x0,x1,x2,())
noncomputable def D2404 (x0:Fw.Mach) (x1:Int):Option (ByteArray×Int×Fw.Mach×Unit):=Dn 221 (x0,x1,())
noncomputable def D2405 (x0:Fw.Mach) (x1:Int) (x2:Int):Option (Fw.Mach×Unit):=Dn 223 (x0,x1,x2,())
noncomputable def D2406 (x0:Fw.Mach) (x1:Int) (x2:Int):Option (Int×Fw.Mach×Unit):=Dn 224 (x0,x1,x2,())
noncomputable def D2407 (x0:Fw.Mach) (x1:Int):Option (Fw.Mach×Unit):=Dn 225 (x0,x1,())
noncomputable def D2408 (x0:Fw.Mach) (x1:Int) (x2:Int):Option (Int×Int×Fw.Mach×Unit):=Dn 226 (x0,x1,x2,())
noncomputable def D2409 (x0:Fw.Mach) (x1:Int):Option ((List Int)×Fw.Mach×Unit):=Dn 227 (x0,x1,())
noncomputable def D2410 (x0:Fw.Mach) (x1:Int) (x2:Int):Option (Int×Fw.Mach×Unit):=Dn 228 (x0,x1,x2,())
noncomputable def D2411 (x0:Fw.Mach) (x1:Int):Option (Int×Int×Fw.Mach×Unit):=Dn 229 (x0,x1,())
noncomputable def D2412 (x0:Fw.Mach) (x1:Int) (x2:Int):Option (Int×Fw.Mach×Unit):=Dn 230 (x0,x1,x2,())
noncomputable def D2413 (x0:Fw.Mach) (x1:Int):Option (Int×Int×Fw.Mach×Unit):=Dn 231 (x0,x1,())
noncomputable def D2414 (x0:Fw.Mach) (x1:Int) (x2:Int) (x3:ByteArray):Option (Int×Fw.Mach×Unit):=Dn 232 (x0,x1,x2,x3,())
noncomputable def D2415 (x0:Fw.Mach) (x1:Int) (x2:Int):Option (ByteArray×Int×Fw.Mach×Unit):=Dn 233 (x0,x1,x2,())
noncomputable def D2416 (x0:Fw.Mach) (x1:ByteArray):Option (Int×Fw.Mach×Unit):=Dn 234 (x0,x1,())
noncomputable def D2417 (x0:List ByteArray) (x1:ByteArray):Option (Int×Unit):=Dn 206 (x0,x1,())
noncomputable def D2418 (x0:ByteArray) (x1:ByteArray):Option (Bool×Unit):=Dn 334 (x0,x1,())
noncomputable def D2419 (x0:List ByteArray) (x1:Int) (x2:List ByteArray):Option ((List ByteArray)×Unit):=Dn 335 (x0,x1,x2,())
noncomputable def D2420 (x0:ByteArray):Option (Int×Bool×Unit):=Dn 328 (x0,())
noncomputable def D2425 (x0:List Fw.Cell) (x1:ByteArray):Option ((List Fw.Cell)×Unit):=Dn 154 (x0,x1,())
noncomputable def D2426 (x0:Fw.Cell) (x1:ByteArray):Option (Bool×Unit):=Dn 155 (x0,x1,())
noncomputable def D2427 (x0:Fw.Cell) (x1:ByteArray):Option (Bool×Unit):=Dn 157 (x0,x1,())
noncomputable def D2428 (x0:List Fw.Cell) (x1:Int) (x2:List Fw.Cell):Option ((List Fw.Cell)×Unit):=Dn 158 (x0,x1,x2,())
noncomputable def D2480 (x0:ByteArray) (x1:ByteArray):Option (Bool×Unit):=Dn 173 (x0,x1,())
noncomputable def D2481 (x0:ByteArray) (x1:ByteArray):Option (Bool×Unit):=Dn 174 (x0,x1,())
noncomputable def D2486 (x0:ByteArray):Option (Bool×Unit):=Dn 283 (x0,())
noncomputable def D2487 (x0:Fw.Mach) (x1:ByteArray):Option (Int×Fw.Mach×Unit):=Dn 284 (x0,x1,())
noncomputable def D2488 (x0:ByteArray):Option (ByteArray×Unit):=Dn 287 (x0,())
noncomputable def D2489 (x0:Int):Option (ByteArray×Unit):=Dn 288 (x0,())
noncomputable def D2490 (x0:Fw.Mach) (x1:ByteArray):Option (Fw.Mach×Unit):=Dn 290 (x0,x1,())
noncomputable def D2491 (x0:Fw.Mach) (x1:ByteArray):Option ((List ByteArray)×Fw.Mach×Unit):=Dn 292 (x0,x1,())
noncomputable def D2492 (x0:Fw.Mach) (x1:Int) (x2:Int) (x3:Int):Option (ByteArray×Fw.Mach×Unit):=Dn 293 (x0,x1,x2,x3,())
noncomputable def D2493 (x0:Fw.Mach) (x1:Int) (x2:Int) (x3:ByteArray):Option (Int×Fw.Mach×Unit):=Dn 294 (x0,x1,x2,x3,())
noncomputable def D2494 (x0:Fw.Mach) (x1:Int) (x2:Int):Option (Int×Fw.Mach×Unit):=Dn 295 (x0,x1,x2,())
noncomputable def D2495 (x0:Int) (x1:ByteArray):Option (ByteArray×Unit):=Dn 296 (x0,x1,())
noncomputable def D2496 (x0:Fw.Mach) (x1:Int):Option (Bool×Fw.Mach×Unit):=Dn 297 (x0,x1,())
noncomputable def D2497 (x0:Fw.Mach) (x1:ByteArray):Option (ByteArray×Fw.Mach×Unit):=Dn 298 (x0,x1,())
noncomputable def D2498 (x0:Int):Option (ByteArray×Unit):=Dn 299 (x0,())
noncomputable def D2499 (x0:ByteArray) (x1:ByteArray):Option (ByteArray×Bool×Unit):=Dn 207 (x0,x1,())
noncomputable def D2500 (x0:Int) (x1:ByteArray):Option (ByteArray×Unit):=Dn 302 (x0,x1,())
noncomputable def D2547 (x0:ByteArray) (x1:ByteArray):Option (Bool×Unit):=Dn 208 (x0,x1,())
noncomputable def D2548 (x0:ByteArray) (x1:ByteArray):Option (Bool×Unit):=Dn 209 (x0,x1,())
noncomputable def D2554 (x0:List Fw.Cell) (x1:ByteArray):Option ((List ByteArray)×Unit):=Dn 323 (x0,x1,())
noncomputable def D2555 (x0:Int):Option (ByteArray×Unit):=Dn 324 (x0,())
noncomputable def D2556 (x0:Fw.Mach) (x1:Int) (x2:Int):Option (ByteArray×Fw.Mach×Unit):=Dn 325 (x0,x1,x2,())
noncomputable def D2557 (x0:Int) (x1:Int):Option (ByteArray×Unit):=Dn 326 (x0,x1,())
noncomputable def D3183 (x0:List Fw.Tx) (x1:Int):Option (Int×Unit):=Dn 1092 (x0,x1,())
noncomputable def D3303 (x0:List Fw.Cell) (x1:ByteArray):Option (Int×Unit):=Dn 1156 (x0,x1,())
noncomputable def D4303 (x0:List Fw.Cell) (x1:ByteArray):Option (Int×Unit):=Dn 2156 (x0,x1,())
noncomputable def D4417 (x0:List ByteArray) (x1:ByteArray):Option (Int×Unit):=Dn 2206 (x0,x1,())
noncomputable def D5004 (x0:Fw.Kernel) (x1:Int):Option (Int×Unit):=Dn 4 (x0,x1,())
noncomputable def D5006 (x0:Fw.Kernel):Option (Fw.Kernel×Unit):=Dn 6 (x0,())
noncomputable def D5008 (x0:Fw.Kernel) (x1:Fw.Kernel):Option (Bool×Unit):=Dn 8 (x0,x1,())
noncomputable def D5009 (x0:List Fw.Cell) (x1:Int):Option (Int×Unit):=Dn 9 (x0,x1,())
noncomputable def D5010 (x0:List Fw.Tx) (x1:Int):Option (Int×Unit):=Dn 10 (x0,x1,())
noncomputable def D5011 (x0:Fw.Disk) (x1:Int):Option (Int×Unit):=Dn 11 (x0,x1,())
noncomputable def D5012 (x0:List Fw.Entry) (x1:Int):Option (Int×Unit):=Dn 12 (x0,x1,())
noncomputable def D5013 (x0:List ByteArray) (x1:Int):Option (Int×Unit):=Dn 13 (x0,x1,())
noncomputable def D5015 (x0:List Fw.Cell):Option ((List Fw.Cell)×Unit):=Dn 15 (x0,())
noncomputable def D5016 (x0:List Fw.Tx):Option ((List Fw.Tx)×Unit):=Dn 16 (x0,())
noncomputable def D5017 (x0:Fw.Disk):Option (Fw.Disk×Unit):=Dn 17 (x0,())
noncomputable def D5018 (x0:List Fw.Entry):Option ((List Fw.Entry)×Unit):=Dn 18 (x0,())
noncomputable def D5019 (x0:List ByteArray):Option ((List ByteArray)×Unit):=Dn 19 (x0,())
noncomputable def D5023 (x0:List Fw.Cell) (x1:List Fw.Cell):Option (Bool×Unit):=Dn 21 (x0,x1,())
noncomputable def D5024 (x0:List Fw.Tx) (x1:List Fw.Tx):Option (Bool×Unit):=Dn 22 (x0,x1,())
noncomputable def D5025 (x0:Fw.Disk) (x1:Fw.Disk):Option (Bool×Unit):=Dn 23 (x0,x1,())
noncomputable def D5026 (x0:List Fw.Entry) (x1:List Fw.Entry):Option (Bool×Unit):=Dn 24 (x0,x1,())
noncomputable def D5027 (x0:List ByteArray) (x1:List ByteArray):Option (Bool×Unit):=Dn 25 (x0,x1,())
noncomputable def D5028 (x0:Fw.Cell) (x1:Int):Option (Int×Unit):=Dn 26 (x0,x1,())
noncomputable def D5029 (x0:Fw.Tx) (x1:Int):Option (Int×Unit):=Dn 27 (x0,x1,())
noncomputable def D5030 (x0:List Fw.Slot) (x1:Int):Option (Int×Unit):=Dn 28 (x0,x1,())
noncomputable def D5031 (x0:Fw.Journal) (x1:Int):Option (Int×Unit):=Dn 29 (x0,x1,())
noncomputable def D5032 (x0:Fw.Entry) (x1:Int):Option (Int×Unit):=Dn 30 (x0,x1,())
noncomputable def D5037 (x0:Fw.Cell):Option (Fw.Cell×Unit):=Dn 38 (x0,())
noncomputable def D5038 (x0:Fw.Tx):Option (Fw.Tx×Unit):=Dn 39 (x0,())
noncomputable def D5039 (x0:List Fw.Slot):Option ((List Fw.Slot)×Unit):=Dn 40 (x0,())
noncomputable def D5040 (x0:Fw.Journal):Option (Fw.Journal×Unit):=Dn 41 (x0,())
noncomputable def D5041 (x0:Fw.Entry):Option (Fw.Entry×Unit):=Dn 42 (x0,())
noncomputable def D5048 (x0:Fw.Cell) (x1:Fw.Cell):Option (Bool×Unit):=Dn 51 (x0,x1,())
noncomputable def D5049 (x0:Fw.Tx) (x1:Fw.Tx):Option (Bool×Unit):=Dn 52 (x0,x1,())
noncomputable def D5050 (x0:List Fw.Slot) (x1:List Fw.Slot):Option (Bool×Unit):=Dn 53 (x0,x1,())
noncomputable def D5051 (x0:Fw.Journal) (x1:Fw.Journal):Option (Bool×Unit):=Dn 54 (x0,x1,())
noncomputable def D5052 (x0:Fw.Entry) (x1:Fw.Entry):Option (Bool×Unit):=Dn 55 (x0,x1,())
noncomputable def D5053 (x0:List Fw.Call) (x1:Int):Option (Int×Unit):=Dn 56 (x0,x1,())
noncomputable def D5054 (x0:List Fw.Answer) (x1:Int):Option (Int×Unit):=Dn 57 (x0,x1,())
noncomputable def D5055 (x0:Fw.Touch) (x1:Int):Option (Int×Unit):=Dn 58 (x0,x1,())
noncomputable def D5056 (x0:List Int) (x1:Int):Option (Int×Unit):=Dn 59 (x0,x1,())
noncomputable def D5057 (x0:Fw.Slot) (x1:Int):Option (Int×Unit):=Dn 60 (x0,x1,())
noncomputable def D5058 (x0:List Fw.Step) (x1:Int):Option (Int×Unit):=Dn 61 (x0,x1,())
noncomputable def D5061 (x0:List Fw.Call):Option ((List Fw.Call)×Unit):=Dn 76 (x0,())
noncomputable def D5062 (x0:List Fw.Answer):Option ((List Fw.Answer)×Unit):=Dn 77 (x0,())
noncomputable def D5063 (x0:Fw.Touch):Option (Fw.Touch×Unit):=Dn 78 (x0,())
noncomputable def D5064 (x0:List Int):Option ((List Int)×Unit):=Dn 79 (x0,())
noncomputable def D5065 (x0:Fw.Slot):Option (Fw.Slot×Unit):=Dn 80 (x0,())
noncomputable def D5066 (x0:List Fw.Step):Option ((List Fw.Step)×Unit):=Dn 81 (x0,())
noncomputable def D5073 (x0:List Fw.Call) (x1:List Fw.Call):Option (Bool×Unit):=Dn 100 (x0,x1,())
noncomputable def D5074 (x0:List Fw.Answer) (x1:List Fw.Answer):Option (Bool×Unit):=Dn 101 (x0,x1,())
noncomputable def D5075 (x0:Fw.Touch) (x1:Fw.Touch):Option (Bool×Unit):=Dn 102 (x0,x1,())
noncomputable def D5076 (x0:List Int) (x1:List Int):Option (Bool×Unit):=Dn 103 (x0,x1,())
noncomputable def D5077 (x0:Fw.Slot) (x1:Fw.Slot):Option (Bool×Unit):=Dn 104 (x0,x1,())
noncomputable def D5078 (x0:List Fw.Step) (x1:List Fw.Step):Option (Bool×Unit):=Dn 105 (x0,x1,())
noncomputable def D5079 (x0:Fw.Call) (x1:Int):Option (Int×Unit):=Dn 106 (x0,x1,())
noncomputable def D5080 (x0:Fw.Answer) (x1:Int):Option (Int×Unit):=Dn 107 (x0,x1,())
noncomputable def D5081 (x0:Fw.Step) (x1:Int):Option (Int×Unit):=Dn 108 (x0,x1,())
noncomputable def D5085 (x0:Fw.Call):Option (Fw.Call×Unit):=Dn 120 (x0,())
noncomputable def D5086 (x0:Fw.Answer):Option (Fw.Answer×Unit):=Dn 121 (x0,())
noncomputable def D5087 (x0:Fw.Step):Option (Fw.Step×Unit):=Dn 122 (x0,())
noncomputable def D5115 (x0:Fw.Call) (x1:Fw.Call):Option (Bool×Unit):=Dn 143 (x0,x1,())
noncomputable def D5116 (x0:Fw.Answer) (x1:Fw.Answer):Option (Bool×Unit):=Dn 144 (x0,x1,())
noncomputable def D5117 (x0:Fw.Step) (x1:Fw.Step):Option (Bool×Unit):=Dn 145 (x0,x1,())
noncomputable def D5205 (x0:ByteArray) (x1:ByteArray):Option (ByteArray×Bool×Unit):=Dn 278 (x0,x1,())
noncomputable def D5232 (x0:ByteArray) (x1:ByteArray):Option (Bool×Unit):=Dn 321 (x0,x1,())
noncomputable def D5241 (x0:ByteArray) (x1:ByteArray):Option (Bool×Unit):=Dn 279 (x0,x1,())
noncomputable def D5245 (x0:ByteArray) (x1:ByteArray):Option (ByteArray×Bool×Unit):=Dn 344 (x0,x1,())
noncomputable def D7003 (x0:Fw.Kernel) (x1:Int):Option (Bool×Unit):=Dn 3 (x0,x1,())
end Go.Proofs.YtapfpflmcgfbkaaGreatDoor.Ri

namespace Go.Proofs.YtapfpflmcgfbkaaGreatDoor.Ri
open Go.Proofs.YtapfpflmcgfbkaaGreatDoor.Fw
open Go.RowKit
set_option linter.unusedVariables false
set_option maxRecDepth 100000
theorem E27 (x0:Int) (x1:Int) (x2:Int):D27 x0 x1 x2=(some (((decide (x0≥x1))&&(decide (x0≤x2))),())):=(Dn_eq _ _).trans (by kernel_rfl)
noncomputable def L40_1012 (s4:Int) (e0_3:ByteArray) (e0_4:Int) (e0_5:Int) (e0_6:Int) (e0_7:Int) (e0_8:List Fw.Entry) (e0_9:List ByteArray) (e0_10:Bool) (e1:List Fw.Cell) (e2:List Fw.Tx) (e3:List Fw.Slot) (e4_3:ByteArray) (e4_4:Int) (e4_5:Int) (e4_6:Int) (e4_7:Int) (e4_10:Bool) (e5:List Fw.Entry):Option (Fw.Kernel×Unit):=Ln 31 1012 (⟨43,[(1,.ok (.pt 0 0)),(2,.ok (.pt 4 0)),(3,.ok (.sl 5)),(4,.ok (.v (.int .i64 s4)))],[(0,.var [.sl 1,.sl 2,.sl 3,.v (.string e0_3),.v (.int .i64 e0_4),.v (.int .i64 e0_5),.v (.int .i64 e0_6),.v (.int .i64 e0_7),.ro 96 e0_8,.ro 9 e0_9,.v (.bool e0_10)] 43),(1,.own 97 e1),(2,.own 88 e2),(3,.own 144 e3),(4,.var [.v (.slice none 0 0),.v (.slice none 0 0),.v (.slice none 0 0),.v (.string e4_3),.v (.int .i64 e4_4),.v (.int .i64 e4_5),.v (.int .i64 e4_6),.v (.int .i64 e4_7),.v (.slice none 0 0),.v (.slice none 0 0),.v (.bool e4_10)] 43),(5,.own 96 e5)]⟩,6)
noncomputable def L40_127 (e0_3:ByteArray) (e0_4:Int) (e0_5:Int) (e0_6:Int) (e0_7:Int) (e0_8:List Fw.Entry) (e0_9:List ByteArray) (e0_10:Bool) (e1:List Fw.Cell) (e2:List Fw.Tx) (e3:List Fw.Slot) (e4_3:ByteArray) (e4_4:Int) (e4_5:Int) (e4_6:Int) (e4_7:Int) (e4_10:Bool) (e5:List Fw.Entry):Option (Fw.Kernel×Unit):=Ln 31 127 (⟨43,[(1,.ok (.pt 0 0)),(2,.ok (.pt 4 0)),(3,.ok (.sl 5))],[(0,.var [.sl 1,.sl 2,.sl 3,.v (.string e0_3),.v (.int .i64 e0_4),.v (.int .i64 e0_5),.v (.int .i64 e0_6),.v (.int .i64 e0_7),.ro 96 e0_8,.ro 9 e0_9,.v (.bool e0_10)] 43),(1,.own 97 e1),(2,.own 88 e2),(3,.own 144 e3),(4,.var [.v (.slice none 0 0),.v (.slice none 0 0),.v (.slice none 0 0),.v (.string e4_3),.v (.int .i64 e4_4),.v (.int .i64 e4_5),.v (.int .i64 e4_6),.v (.int .i64 e4_7),.v (.slice none 0 0),.v (.slice none 0 0),.v (.bool e4_10)] 43),(5,.own 96 e5)]⟩,6)
theorem E40 (x0:Fw.Kernel):D40 x0=(gd ((decide (((0+x0.Store.length)*32)≤140737488355328))&&(decide ((0+x0.Store.length)≤9223372036854775807))) <| (D54 x0.Txs).bind fun y0=>(D55 x0.Disk).bind fun y1=>L40_1012 0 y1.1.Journal.Text y1.1.Journal.Sure x0.Seq x0.Next x0.Time x0.History x0.Seen x0.Room ([]++x0.Store) y0.1 y1.1.Slots (tx []) 0 0 0 0 false []):=(Dn_eq _ _).trans (by kernel_rfl)
theorem P40_1012 (s4:Int) (e0_3:ByteArray) (e0_4:Int) (e0_5:Int) (e0_6:Int) (e0_7:Int) (e0_8:List Fw.Entry) (e0_9:List ByteArray) (e0_10:Bool) (e1:List Fw.Cell) (e2:List Fw.Tx) (e3:List Fw.Slot) (e4_3:ByteArray) (e4_4:Int) (e4_5:Int) (e4_6:Int) (e4_7:Int) (e4_10:Bool) (e5:List Fw.Entry):L40_1012 s4 e0_3 e0_4 e0_5 e0_6 e0_7 e0_8 e0_9 e0_10 e1 e2 e3 e4_3 e4_4 e4_5 e4_6 e4_7 e4_10 e5=(bif (decide (s4<(e0_8.length:Int))) then(gd ((decide (0≤s4))&&(decide (s4<(e0_8.length:Int)))) <| (D56 (nth e0_8 s4.toNat)).bind fun y0=>gd ((decide (((e5.length+1)*96)≤140737488355328))&&(decide ((e5.length+1)≤9223372036854775807))) <| L40_1012 (IntKind.wrap .i64 (s4+1)) e0_3 e0_4 e0_5 e0_6 e0_7 e0_8 e0_9 e0_10 e1 e2 e3 e4_3 e4_4 e4_5 e4_6 e4_7 e4_10 (e5++[y0.1])) else L40_127 e0_3 e0_4 e0_5 e0_6 e0_7 e0_8 e0_9 e0_10 e1 e2 e3 e4_3 e4_4 e4_5 e4_6 e4_7 e4_10 e5):=(Ln_eq _ _ _).trans (by kernel_rfl)
theorem P40_127 (e0_3:ByteArray) (e0_4:Int) (e0_5:Int) (e0_6:Int) (e0_7:Int) (e0_8:List Fw.Entry) (e0_9:List ByteArray) (e0_10:Bool) (e1:List Fw.Cell) (e2:List Fw.Tx) (e3:List Fw.Slot) (e4_3:ByteArray) (e4_4:Int) (e4_5:Int) (e4_6:Int) (e4_7:Int) (e4_10:Bool) (e5:List Fw.Entry):L40_127 e0_3 e0_4 e0_5 e0_6 e0_7 e0_8 e0_9 e0_10 e1 e2 e3 e4_3 e4_4 e4_5 e4_6 e4_7 e4_10 e5=(gd ((decide (((0+e0_9.length)*16)≤140737488355328))&&(decide ((0+e0_9.length)≤9223372036854775807))) <| some ((⟨e1,e2,(⟨e3,(⟨e0_3,e0_4⟩:Fw.Journal)⟩:Fw.Disk),e0_5,e0_6,e0_7,e5,([]++e0_9),e0_10⟩:Fw.Kernel),())):=(Ln_eq _ _ _).trans (by kernel_rfl)
theorem E52 (x0:Fw.Mach) (x1:Int):D52 x0 x1=((D88 x0 (tx [99,47,112,114,111,99])).bind fun y0=>bif (decide (y0.2.1≥12)) then(some (y0.1,(0,(3,())))) else(D89 y0.1 (tx [99,47,112,114,111,99])).bind fun y1=>(D91 y1.2.1 (tx [47,115])).bind fun y2=>(D90 y1.1 y2.1 1).bind fun y3=>(D91 y1.2.1 (tx [47,112])).bind fun y4=>(D90 y3.1 y4.1 x1).bind fun y5=>some (y5.1,(y1.2.1,(0,())))):=(Dn_eq _ _).trans (by kernel_rfl)
theorem E53 (x0:List Fw.Cell):D53 x0=(gd ((decide (((0+x0.length)*32)≤140737488355328))&&(decide ((0+x0.length)≤9223372036854775807))) <| some ((⟨([]++x0),(⟨[],[]⟩:Fw.Touch)⟩:Fw.Mach),())):=(Dn_eq _ _).trans (by kernel_rfl)
noncomputable def L54_116 (s0:List Fw.Tx) (s4:Int) (e0:List Fw.Tx):Option ((List Fw.Tx)×Unit):=Ln 62 116 (⟨21,[(0,.ok (.ro 88 s0)),(3,.ok (.sl 0)),(4,.ok (.v (.int .i64 s4)))],[(0,.own 88 e0)]⟩,1)
noncomputable def L54_15 (e0:List Fw.Tx):Option ((List Fw.Tx)×Unit):=Ln 62 15 (⟨21,[(3,.ok (.sl 0))],[(0,.own 88 e0)]⟩,1)
theorem E54 (x0:List Fw.Tx):D54 x0=(L54_116 x0 0 []):=(Dn_eq _ _).trans (by kernel_rfl)
theorem P54_116 (s0:List Fw.Tx) (s4:Int) (e0:List Fw.Tx):L54_116 s0 s4 e0=(bif (decide (s4<(s0.length:Int))) then(gd ((decide (0≤s4))&&(decide (s4<(s0.length:Int)))) <| (D92 (nth s0 s4.toNat)).bind fun y0=>gd ((decide (((e0.length+1)*160)≤140737488355328))&&(decide ((e0.length+1)≤9223372036854775807))) <| L54_116 s0 (IntKind.wrap .i64 (s4+1)) (e0++[y0.1])) else L54_15 e0):=(Ln_eq _ _ _).trans (by kernel_rfl)
theorem P54_15 (e0:List Fw.Tx):L54_15 e0=(some (e0,())):=(Ln_eq _ _ _).trans (by kernel_rfl)
noncomputable def L55_116 (s4:Int) (e0_0:List Fw.Slot) (e0_1:ByteArray) (e0_2:Int) (e1_1:ByteArray) (e1_2:Int) (e2_1:ByteArray) (e2_2:Int):Option (Fw.Disk×Unit):=Ln 63 116 (⟨33,[(1,.ok (.pt 0 0)),(2,.ok (.pt 1 0)),(3,.ok (.pt 2 0)),(4,.ok (.v (.int .i64 s4)))],[(0,.var [.ro 144 e0_0,.v (.string e0_1),.v (.int .i64 e0_2)] 40),(1,.var [.v (.slice none 0 0),.v (.string e1_1),.v (.int .i64 e1_2)] 40),(2,.var [.v (.slice none 0 0),.v (.string e2_1),.v (.int .i64 e2_2)] 40)]⟩,3)
noncomputable def L55_15 (e0_1:ByteArray) (e0_2:Int) (e1_1:ByteArray) (e1_2:Int):Option (Fw.Disk×Unit):=Ln 63 15 (⟨33,[(2,.ok (.pt 0 0)),(3,.ok (.pt 1 0))],[(0,.var [.v (.slice none 0 0),.v (.string e0_1),.v (.int .i64 e0_2)] 40),(1,.var [.v (.slice none 0 0),.v (.string e1_1),.v (.int .i64 e1_2)] 40)]⟩,2)
noncomputable def L55_116b (s4:Int) (e0_0:List Fw.Slot) (e0_1:ByteArray) (e0_2:Int) (e1_1:ByteArray) (e1_2:Int) (e2_1:ByteArray) (e2_2:Int) (e3:List Fw.Slot):Option (Fw.Disk×Unit):=Ln 63 116 (⟨33,[(1,.ok (.pt 0 0)),(2,.ok (.pt 1 0)),(3,.ok (.pt 2 0)),(4,.ok (.v (.int .i64 s4)))],[(0,.var [.ro 144 e0_0,.v (.string e0_1),.v (.int .i64 e0_2)] 40),(1,.var [.v (.slice none 0 0),.v (.string e1_1),.v (.int .i64 e1_2)] 40),(2,.var [.sl 3,.v (.string e2_1),.v (.int .i64 e2_2)] 40),(3,.own 144 e3)]⟩,4)
noncomputable def L55_15b (e0_1:ByteArray) (e0_2:Int) (e1_1:ByteArray) (e1_2:Int) (e2:List Fw.Slot):Option (Fw.Disk×Unit):=Ln 63 15 (⟨33,[(2,.ok (.pt 0 0)),(3,.ok (.pt 1 0))],[(0,.var [.v (.slice none 0 0),.v (.string e0_1),.v (.int .i64 e0_2)] 40),(1,.var [.sl 2,.v (.string e1_1),.v (.int .i64 e1_2)] 40),(2,.own 144 e2)]⟩,3)
theorem E55 (x0:Fw.Disk):D55 x0=(L55_116 0 x0.Slots x0.Journal.Text x0.Journal.Sure (tx []) 0 x0.Journal.Text x0.Journal.Sure):=(Dn_eq _ _).trans (by kernel_rfl)
theorem P55_116 (s4:Int) (e0_0:List Fw.Slot) (e0_1:ByteArray) (e0_2:Int) (e1_1:ByteArray) (e1_2:Int) (e2_1:ByteArray) (e2_2:Int):L55_116 s4 e0_0 e0_1 e0_2 e1_1 e1_2 e2_1 e2_2=(bif (decide (s4<(e0_0.length:Int))) then(gd ((decide (0≤s4))&&(decide (s4<(e0_0.length:Int)))) <| gd ((decide (((0+(nth e0_0 s4.toNat).Cells.length)*32)≤140737488355328))&&(decide ((0+(nth e0_0 s4.toNat).Cells.length)≤9223372036854775807))) <| gd ((decide ((1*40)≤140737488355328))&&(decide (1≤9223372036854775807))) <| L55_116b (IntKind.wrap .i64 (s4+1)) e0_0 e0_1 e0_2 e1_1 e1_2 e2_1 e2_2 [{ (nth e0_0 s4.toNat) with Cells:=([]++(nth e0_0 s4.toNat).Cells) }]) else L55_15 e1_1 e1_2 e2_1 e2_2):=(Ln_eq _ _ _).trans (by kernel_rfl)
theorem P55_15 (e0_1:ByteArray) (e0_2:Int) (e1_1:ByteArray) (e1_2:Int):L55_15 e0_1 e0_2 e1_1 e1_2=(some ((⟨[],(⟨e1_1,e1_2⟩:Fw.Journal)⟩:Fw.Disk),())):=(Ln_eq _ _ _).trans (by kernel_rfl)
theorem P55_116b (s4:Int) (e0_0:List Fw.Slot) (e0_1:ByteArray) (e0_2:Int) (e1_1:ByteArray) (e1_2:Int) (e2_1:ByteArray) (e2_2:Int) (e3:List Fw.Slot):L55_116b s4 e0_0 e0_1 e0_2 e1_1 e1_2 e2_1 e2_2 e3=(bif (decide (s4<(e0_0.length:Int))) then(gd ((decide (0≤s4))&&(decide (s4<(e0_0.length:Int)))) <| gd ((decide (((0+(nth e0_0 s4.toNat).Cells.length)*32)≤140737488355328))&&(decide ((0+(nth e0_0 s4.toNat).Cells.length)≤9223372036854775807))) <| gd ((decide (((e3.length+1)*40)≤140737488355328))&&(decide ((e3.length+1)≤9223372036854775807))) <| L55_116b (IntKind.wrap .i64 (s4+1)) e0_0 e0_1 e0_2 e1_1 e1_2 e2_1 e2_2 (e3++[{ (nth e0_0 s4.toNat) with Cells:=([]++(nth e0_0 s4.toNat).Cells) }])) else L55_15b e1_1 e1_2 e2_1 e2_2 e3):=(Ln_eq _ _ _).trans (by kernel_rfl)
theorem P55_15b (e0_1:ByteArray) (e0_2:Int) (e1_1:ByteArray) (e1_2:Int) (e2:List Fw.Slot):L55_15b e0_1 e0_2 e1_1 e1_2 e2=(some ((⟨e2,(⟨e1_1,e1_2⟩:Fw.Journal)⟩:Fw.Disk),())):=(Ln_eq _ _ _).trans (by kernel_rfl)
theorem E56 (x0:Fw.Entry):D56 x0=(gd ((decide (((0+x0.Steps.length)*80)≤140737488355328))&&(decide ((0+x0.Steps.length)≤9223372036854775807))) <| gd ((decide (((0+x0.Answers.length)*32)≤140737488355328))&&(decide ((0+x0.Answers.length)≤9223372036854775807))) <| some ({ x0 with Steps:=([]++x0.Steps),Answers:=([]++x0.Answers) },())):=(Dn_eq _ _).trans (by kernel_rfl)
noncomputable def L57_52 (s3:Int) (e0_0:List Fw.Cell) (e0_1:List Fw.Tx) (e0_2:List Fw.Slot) (e0_3:ByteArray) (e0_4:Int) (e0_5:Int) (e0_6:Int) (e0_7:Int) (e0_8:List Fw.Entry) (e0_9:List ByteArray) (e0_10:Bool):Option (Bool×Unit):=Ln 32 52 (⟨51,[(1,.ok (.pt 0 0)),(3,.ok (.v (.int .i64 s3)))],[(0,.var [.ro 97 e0_0,.ro 88 e0_1,.ro 144 e0_2,.v (.string e0_3),.v (.int .i64 e0_4),.v (.int .i64 e0_5),.v (.int .i64 e0_6),.v (.int .i64 e0_7),.ro 96 e0_8,.ro 9 e0_9,.v (.bool e0_10)] 43)]⟩,1)
noncomputable def L57_7 (e0_0:List Fw.Cell) (e0_1:List Fw.Tx) (e0_2:List Fw.Slot) (e0_3:ByteArray) (e0_4:Int) (e0_5:Int) (e0_6:Int) (e0_7:Int) (e0_8:List Fw.Entry) (e0_9:List ByteArray) (e0_10:Bool):Option (Bool×Unit):=Ln 32 7 (⟨51,[(1,.ok (.pt 0 0))],[(0,.var [.ro 97 e0_0,.ro 88 e0_1,.ro 144 e0_2,.v (.string e0_3),.v (.int .i64 e0_4),.v (.int .i64 e0_5),.v (.int .i64 e0_6),.v (.int .i64 e0_7),.ro 96 e0_8,.ro 9 e0_9,.v (.bool e0_10)] 43)]⟩,1)
theorem E57 (x0:Fw.Kernel):D57 x0=(L57_52 0 x0.Store x0.Txs x0.Disk.Slots x0.Disk.Journal.Text x0.Disk.Journal.Sure x0.Seq x0.Next x0.Time x0.History x0.Seen x0.Room):=(Dn_eq _ _).trans (by kernel_rfl)
theorem P57_52 (s3:Int) (e0_0:List Fw.Cell) (e0_1:List Fw.Tx) (e0_2:List Fw.Slot) (e0_3:ByteArray) (e0_4:Int) (e0_5:Int) (e0_6:Int) (e0_7:Int) (e0_8:List Fw.Entry) (e0_9:List ByteArray) (e0_10:Bool):L57_52 s3 e0_0 e0_1 e0_2 e0_3 e0_4 e0_5 e0_6 e0_7 e0_8 e0_9 e0_10=(bif (decide (s3<(e0_1.length:Int))) then(gd ((decide (0≤s3))&&(decide (s3<(e0_1.length:Int)))) <| gd (((decide (0≤s3))&&(decide (s3<(e0_1.length:Int))))||(!(!(decide ((nth e0_1 s3.toNat).Id≥e0_6))))) <| bif (!(decide ((nth e0_1 s3.toNat).Id≥e0_6))) then((D93 e0_1 (nth e0_1 s3.toNat).Id).bind fun y0=>bif (!(decide (y0.1=s3))) then(some (false,())) else L57_52 (IntKind.wrap .i64 (s3+1)) e0_0 e0_1 e0_2 e0_3 e0_4 e0_5 e0_6 e0_7 e0_8 e0_9 e0_10) else some (false,())) else L57_7 e0_0 e0_1 e0_2 e0_3 e0_4 e0_5 e0_6 e0_7 e0_8 e0_9 e0_10):=(Ln_eq _ _ _).trans (by kernel_rfl)
theorem P57_7 (e0_0:List Fw.Cell) (e0_1:List Fw.Tx) (e0_2:List Fw.Slot) (e0_3:ByteArray) (e0_4:Int) (e0_5:Int) (e0_6:Int) (e0_7:Int) (e0_8:List Fw.Entry) (e0_9:List ByteArray) (e0_10:Bool):L57_7 e0_0 e0_1 e0_2 e0_3 e0_4 e0_5 e0_6 e0_7 e0_8 e0_9 e0_10=((D94 e0_0).bind fun y0=>bif y0.1 then((D95 (⟨e0_2,(⟨e0_3,e0_4⟩:Fw.Journal)⟩:Fw.Disk)).bind fun y1=>bif y1.1 then((D27 e0_5 0 99000).bind fun y2=>bif y2.1 then((D96 e0_1).bind fun y3=>some (y3.1,())) else some (false,())) else some (false,())) else some (false,())):=(Ln_eq _ _ _).trans (by kernel_rfl)
noncomputable def L58_52 (s1:Int) (s5:Int) (e0_0:List Fw.Cell) (e0_1:List Fw.Tx) (e0_2:List Fw.Slot) (e0_3:ByteArray) (e0_4:Int) (e0_5:Int) (e0_6:Int) (e0_7:Int) (e0_8:List Fw.Entry) (e0_9:List ByteArray) (e0_10:Bool):Option (Int×Unit):=Ln 33 52 (⟨31,[(1,.ok (.v (.int .i64 s1))),(2,.ok (.pt 0 0)),(5,.ok (.v (.int .i64 s5)))],[(0,.var [.ro 97 e0_0,.ro 88 e0_1,.ro 144 e0_2,.v (.string e0_3),.v (.int .i64 e0_4),.v (.int .i64 e0_5),.v (.int .i64 e0_6),.v (.int .i64 e0_7),.ro 96 e0_8,.ro 9 e0_9,.v (.bool e0_10)] 43)]⟩,1)
noncomputable def L58_7  : Option (Int×Unit):=Ln 33 7 (⟨31,[],[]⟩,0)
theorem E58 (x0:Fw.Kernel) (x1:Int):D58 x0 x1=(L58_52 x1 0 x0.Store x0.Txs x0.Disk.Slots x0.Disk.Journal.Text x0.Disk.Journal.Sure x0.Seq x0.Next x0.Time x0.History x0.Seen x0.Room):=(Dn_eq _ _).trans (by kernel_rfl)
theorem P58_52 (s1:Int) (s5:Int) (e0_0:List Fw.Cell) (e0_1:List Fw.Tx) (e0_2:List Fw.Slot) (e0_3:ByteArray) (e0_4:Int) (e0_5:Int) (e0_6:Int) (e0_7:Int) (e0_8:List Fw.Entry) (e0_9:List ByteArray) (e0_10:Bool):L58_52 s1 s5 e0_0 e0_1 e0_2 e0_3 e0_4 e0_5 e0_6 e0_7 e0_8 e0_9 e0_10=(bif (decide (s5<(e0_1.length:Int))) then(gd ((decide (0≤s5))&&(decide (s5<(e0_1.length:Int)))) <| gd (((decide (0≤s5))&&(decide (s5<(e0_1.length:Int))))||(!(decide ((nth e0_1 s5.toNat).Id=s1)))) <| bif ((decide ((nth e0_1 s5.toNat).Id=s1))&&(decide ((nth e0_1 s5.toNat).State=1))) then(some (s5,())) else L58_52 s1 (IntKind.wrap .i64 (s5+1)) e0_0 e0_1 e0_2 e0_3 e0_4 e0_5 e0_6 e0_7 e0_8 e0_9 e0_10) else L58_7):=(Ln_eq _ _ _).trans (by kernel_rfl)
theorem P58_7  : L58_7=(some ((-1),())):=(Ln_eq _ _ _).trans (by kernel_rfl)
theorem E64 (x0:List Fw.Cell) (x1:Int) (x2:Fw.Call):D64 x0 x1 x2=((D53 x0).bind fun y0=>(D101 y0.1 x1 x2).bind fun y1=>some (y1.1.Store,(y1.2.1,(y1.1.Touch,())))):=(Dn_eq _ _).trans (by kernel_rfl)
noncomputable def L66_244 (s1:List Fw.Cell) (s6:List ByteArray) (s7:Int) (e0:List Fw.Cell):Option ((List Fw.Cell)×Unit):=Ln 35 244 (⟨33,[(1,.ok (.ro 97 s1)),(5,.ok (.sl 0)),(6,.ok (.ro 9 s6)),(7,.ok (.v (.int .i64 s7)))],[(0,.own 97 e0)]⟩,1)
noncomputable def L66_31 (e0:List Fw.Cell):Option ((List Fw.Cell)×Unit):=Ln 35 31 (⟨33,[(5,.ok (.sl 0))],[(0,.own 97 e0)]⟩,1)
theorem E66 (x0:List Fw.Cell) (x1:List Fw.Cell):D66 x0 x1=((D103 x0 x1).bind fun y0=>L66_244 x1 y0.1 0 []):=(Dn_eq _ _).trans (by kernel_rfl)
theorem P66_244 (s1:List Fw.Cell) (s6:List ByteArray) (s7:Int) (e0:List Fw.Cell):L66_244 s1 s6 s7 e0=(bif (decide (s7<(s6.length:Int))) then(gd ((decide (0≤s7))&&(decide (s7<(s6.length:Int)))) <| gd ((decide (0≤s7))&&(decide (s7<(s6.length:Int)))) <| (D104 s1 (nth s6 s7.toNat)).bind fun y0=>gd ((decide (((e0.length+1)*32)≤140737488355328))&&(decide ((e0.length+1)≤9223372036854775807))) <| L66_244 s1 s6 (IntKind.wrap .i64 (s7+1)) (e0++[(⟨(nth s6 s7.toNat),y0.1⟩:Fw.Cell)])) else L66_31 e0):=(Ln_eq _ _ _).trans (by kernel_rfl)
theorem P66_31 (e0:List Fw.Cell):L66_31 e0=(some (e0,())):=(Ln_eq _ _ _).trans (by kernel_rfl)
theorem E69 (x0:Fw.Kernel) (x1:List Fw.Cell):D69 x0 x1=((D40 x0).bind fun y0=>bif (decide ((x1.length:Int)=0)) then(some (y0.1,(true,()))) else(D108 (IntKind.wrap .i64 (y0.1.Seq+1)) x1).bind fun y1=>bif ((decide (y0.1.Seq≥99000))||(decide (y1.1=(tx [])))) then(some (y0.1,(false,()))) else(D109 y0.1.Disk.Journal y1.1).bind fun y2=>bif (!y2.2.1) then(some (y0.1,(false,()))) else some ({ y0.1 with Disk:=(⟨y0.1.Disk.Slots,y2.1⟩:Fw.Disk),Seq:=(IntKind.wrap .i64 (y0.1.Seq+1)) },(true,()))):=(Dn_eq _ _).trans (by kernel_rfl)
theorem E84 (x0:Fw.Kernel) (x1:Int):D84 x0 x1=((D40 x0).bind fun y0=>(D57 y0.1).bind fun y1=>bif (!y1.1) then(some (y0.1,(4,()))) else(D58 y0.1 x1).bind fun y2=>bif (decide (y2.1<0)) then(some (y0.1,(21,()))) else gd ((decide (0≤y2.1))&&(decide (y2.1<(y0.1.Txs.length:Int)))) <| (D128 y0.1.Store (nth y0.1.Txs y2.1.toNat)).bind fun y3=>(D66 y0.1.Store y3.1).bind fun y4=>(D69 y0.1 y4.1).bind fun y5=>bif (!y5.2.1) then(some (y0.1,(3,()))) else gd ((decide (0≤y2.1))&&(decide (y2.1<(y5.1.Txs.length:Int)))) <| (D129 (nth y0.1.Txs y2.1.toNat)).bind fun y6=>gd ((decide (((0+(nth y0.1.Txs y2.1.toNat).Answers.length)*32)≤140737488355328))&&(decide ((0+(nth y0.1.Txs y2.1.toNat).Answers.length)≤9223372036854775807))) <| gd ((decide (((y5.1.History.length+1)*96)≤140737488355328))&&(decide ((y5.1.History.length+1)≤9223372036854775807))) <| some ({ y5.1 with Store:=y3.1,Txs:=(y5.1.Txs.set y2.1.toNat { (nth y5.1.Txs y2.1.toNat) with State:=2 }),Time:=(IntKind.wrap .i64 (y5.1.Time+1)),History:=(y5.1.History++[(⟨y5.1.Seq,2,x1,y6.1,([]++(nth y0.1.Txs y2.1.toNat).Answers),(nth y0.1.Txs y2.1.toNat).Began,(IntKind.wrap .i64 (y5.1.Time+1)),(decide ((y4.1.length:Int)>0))⟩:Fw.Entry)]) },(0,()))):=(Dn_eq _ _).trans (by kernel_rfl)
theorem E88 (x0:Fw.Mach) (x1:ByteArray):D88 x0 x1=((D130 x0 x1).bind fun y0=>(D111 y0.2.1).bind fun y1=>some (y0.1,(y1.1,()))):=(Dn_eq _ _).trans (by kernel_rfl)
theorem E89 (x0:Fw.Mach) (x1:ByteArray):D89 x0 x1=((D130 x0 x1).bind fun y0=>(D111 y0.2.1).bind fun y1=>bif (decide ((IntKind.wrap .i64 (y1.1+1))>999)) then(some (y0.1,(0,()))) else(D122 (IntKind.wrap .i64 (y1.1+1))).bind fun y2=>(D131 y0.1 x1 y2.1).bind fun y3=>some (y3.1,((IntKind.wrap .i64 (y1.1+1)),()))):=(Dn_eq _ _).trans (by kernel_rfl)
theorem E90 (x0:Fw.Mach) (x1:ByteArray) (x2:Int):D90 x0 x1 x2=((D27 x2 1 999).bind fun y0=>bif (!y0.1) then((D131 x0 x1 (tx [])).bind fun y3=>some (y3.1,())) else(D122 x2).bind fun y1=>(D131 x0 x1 y1.1).bind fun y2=>some (y2.1,())):=(Dn_eq _ _).trans (by kernel_rfl)
theorem E91 (x0:Int) (x1:ByteArray):D91 x0 x1=((D112 (tx [114,47]) x0 x1).bind fun y0=>some (y0.1,())):=(Dn_eq _ _).trans (by kernel_rfl)
theorem E92 (x0:Fw.Tx):D92 x0=(gd ((decide (((0+x0.Calls.length)*72)≤140737488355328))&&(decide ((0+x0.Calls.length)≤9223372036854775807))) <| gd ((decide (((0+x0.Answers.length)*32)≤140737488355328))&&(decide ((0+x0.Answers.length)≤9223372036854775807))) <| gd ((decide (((0+x0.Touch.Reads.length)*16)≤140737488355328))&&(decide ((0+x0.Touch.Reads.length)≤9223372036854775807))) <| gd ((decide (((0+x0.Touch.Writes.length)*16)≤140737488355328))&&(decide ((0+x0.Touch.Writes.length)≤9223372036854775807))) <| gd ((decide (((0+x0.Marks.length)*8)≤140737488355328))&&(decide ((0+x0.Marks.length)≤9223372036854775807))) <| some ({ x0 with Calls:=([]++x0.Calls),Answers:=([]++x0.Answers),Touch:=(⟨([]++x0.Touch.Reads),([]++x0.Touch.Writes)⟩:Fw.Touch),Marks:=([]++x0.Marks) },())):=(Dn_eq _ _).trans (by kernel_rfl)
noncomputable def L93_52 (s0:List Fw.Tx) (s1:Int) (s5:Int):Option (Int×Unit):=Ln 65 52 (⟨20,[(0,.ok (.ro 88 s0)),(1,.ok (.v (.int .i64 s1))),(5,.ok (.v (.int .i64 s5)))],[]⟩,0)
noncomputable def L93_7  : Option (Int×Unit):=Ln 65 7 (⟨20,[],[]⟩,0)
theorem E93 (x0:List Fw.Tx) (x1:Int):D93 x0 x1=(L93_52 x0 x1 0):=(Dn_eq _ _).trans (by kernel_rfl)
theorem P93_52 (s0:List Fw.Tx) (s1:Int) (s5:Int):L93_52 s0 s1 s5=(bif (decide (s5<(s0.length:Int))) then(gd ((decide (0≤s5))&&(decide (s5<(s0.length:Int)))) <| bif (decide ((nth s0 s5.toNat).Id=s1)) then(some (s5,())) else L93_52 s0 s1 (IntKind.wrap .i64 (s5+1))) else L93_7):=(Ln_eq _ _ _).trans (by kernel_rfl)
theorem P93_7  : L93_7=(some ((-1),())):=(Ln_eq _ _ _).trans (by kernel_rfl)
noncomputable def L94_52 (s0:List Fw.Cell) (s3:Int):Option (Bool×Unit):=Ln 66 52 (⟨48,[(0,.ok (.ro 97 s0)),(3,.ok (.v (.int .i64 s3)))],[]⟩,0)
noncomputable def L94_7 (s0:List Fw.Cell):Option (Bool×Unit):=Ln 66 7 (⟨48,[(0,.ok (.ro 97 s0))],[]⟩,0)
theorem E94 (x0:List Fw.Cell):D94 x0=(L94_52 x0 0):=(Dn_eq _ _).trans (by kernel_rfl)
theorem P94_52 (s0:List Fw.Cell) (s3:Int):L94_52 s0 s3=(bif (decide (s3<(s0.length:Int))) then(gd ((decide (0≤s3))&&(decide (s3<(s0.length:Int)))) <| (D132 (nth s0 s3.toNat).Key).bind fun y0=>gd (((decide (0≤s3))&&(decide (s3<(s0.length:Int))))||(!(!(!y0.1)))) <| bif (!(!y0.1)) then((D27 ((nth s0 s3.toNat).Val.size:Int) 1 60).bind fun y1=>gd (((decide (0≤(IntKind.wrap .i64 (s3 - 1))))&&(decide ((IntKind.wrap .i64 (s3 - 1))<(s0.length:Int))))||(!((!(!y1.1))&&(decide (s3>0))))) <| gd (((decide (0≤s3))&&(decide (s3<(s0.length:Int))))||(!((!(!y1.1))&&(decide (s3>0))))) <| bif ((!y1.1)||((decide (s3>0))&&(!(ltB (nth s0 (IntKind.wrap .i64 (s3 - 1)).toNat).Key (nth s0 s3.toNat).Key)))) then(some (false,())) else L94_52 s0 (IntKind.wrap .i64 (s3+1))) else gd (((decide (0≤(IntKind.wrap .i64 (s3 - 1))))&&(decide ((IntKind.wrap .i64 (s3 - 1))<(s0.length:Int))))||true) <| gd (((decide (0≤s3))&&(decide (s3<(s0.length:Int))))||true) <| some (false,())) else L94_7 s0):=(Ln_eq _ _ _).trans (by kernel_rfl)
theorem P94_7 (s0:List Fw.Cell):L94_7 s0=(some ((decide ((s0.length:Int)≤900)),())):=(Ln_eq _ _ _).trans (by kernel_rfl)
noncomputable def L95_52 (s3:Int) (e0_0:List Fw.Slot) (e0_1:ByteArray) (e0_2:Int):Option (Bool×Unit):=Ln 67 52 (⟨45,[(1,.ok (.pt 0 0)),(3,.ok (.v (.int .i64 s3)))],[(0,.var [.ro 144 e0_0,.v (.string e0_1),.v (.int .i64 e0_2)] 40)]⟩,1)
noncomputable def L95_7 (e0_0:List Fw.Slot) (e0_1:ByteArray) (e0_2:Int):Option (Bool×Unit):=Ln 67 7 (⟨45,[(1,.ok (.pt 0 0))],[(0,.var [.ro 144 e0_0,.v (.string e0_1),.v (.int .i64 e0_2)] 40)]⟩,1)
theorem E95 (x0:Fw.Disk):D95 x0=(L95_52 0 x0.Slots x0.Journal.Text x0.Journal.Sure):=(Dn_eq _ _).trans (by kernel_rfl)
theorem P95_52 (s3:Int) (e0_0:List Fw.Slot) (e0_1:ByteArray) (e0_2:Int):L95_52 s3 e0_0 e0_1 e0_2=(bif (decide (s3<(e0_0.length:Int))) then(gd ((decide (0≤s3))&&(decide (s3<(e0_0.length:Int)))) <| bif (nth e0_0 s3.toNat).Whole then((D27 (nth e0_0 s3.toNat).Seq 0 99999).bind fun y0=>bif (!(!y0.1)) then((D94 (nth e0_0 s3.toNat).Cells).bind fun y1=>bif ((!y0.1)||(!y1.1)) then(some (false,())) else L95_52 (IntKind.wrap .i64 (s3+1)) e0_0 e0_1 e0_2) else ng (!(!y0.1)) <| gd ((!y0.1)&&true) <| some (false,())) else L95_52 (IntKind.wrap .i64 (s3+1)) e0_0 e0_1 e0_2) else L95_7 e0_0 e0_1 e0_2):=(Ln_eq _ _ _).trans (by kernel_rfl)
theorem P95_7 (e0_0:List Fw.Slot) (e0_1:ByteArray) (e0_2:Int):L95_7 e0_0 e0_1 e0_2=(bif (decide ((e0_0.length:Int)=2)) then((D114 (⟨e0_0,(⟨e0_1,e0_2⟩:Fw.Journal)⟩:Fw.Disk)).bind fun y0=>bif (decide (y0.1≥0)) then((D110 (⟨e0_1,e0_2⟩:Fw.Journal)).bind fun y1=>some (y1.1,())) else some (false,())) else some (false,())):=(Ln_eq _ _ _).trans (by kernel_rfl)
end Go.Proofs.YtapfpflmcgfbkaaGreatDoor.Ri

namespace Go.Proofs.YtapfpflmcgfbkaaGreatDoor.Ri
open Go.Proofs.YtapfpflmcgfbkaaGreatDoor.Fw
open Go.RowKit
set_option linter.unusedVariables false
set_option maxRecDepth 100000
noncomputable def L96_52 (s0:List Fw.Tx) (s3:Int):Option (Bool×Unit):=Ln 69 52 (⟨43,[(0,.ok (.ro 88 s0)),(3,.ok (.v (.int .i64 s3)))],[]⟩,0)
noncomputable def L96_7  : Option (Bool×Unit):=Ln 69 7 (⟨43,[],[]⟩,0)
noncomputable def L96_3364 (s0:List Fw.Tx) (s3:Int) (s4:Int):Option (Bool×Unit):=Ln 69 3364 (⟨43,[(0,.ok (.ro 88 s0)),(3,.ok (.v (.int .i64 s3))),(4,.ok (.v (.int .i64 s4)))],[]⟩,0)
noncomputable def L96_211 (s0:List Fw.Tx) (s3:Int):Option (Bool×Unit):=Ln 69 211 (⟨43,[(0,.ok (.ro 88 s0)),(3,.ok (.v (.int .i64 s3)))],[]⟩,0)
theorem E96 (x0:List Fw.Tx):D96 x0=(L96_52 x0 0):=(Dn_eq _ _).trans (by kernel_rfl)
theorem P96_52 (s0:List Fw.Tx) (s3:Int):L96_52 s0 s3=(bif (decide (s3<(s0.length:Int))) then(L96_3364 s0 s3 0) else L96_7):=(Ln_eq _ _ _).trans (by kernel_rfl)
theorem P96_7  : L96_7=(some (true,())):=(Ln_eq _ _ _).trans (by kernel_rfl)
theorem P96_3364 (s0:List Fw.Tx) (s3:Int) (s4:Int):L96_3364 s0 s3 s4=(bif (decide (s4<s3)) then(gd ((decide (0≤s3))&&(decide (s3<(s0.length:Int)))) <| gd (((decide (0≤s4))&&(decide (s4<(s0.length:Int))))||(!(decide ((nth s0 s3.toNat).State=1)))) <| gd (((decide (0≤s3))&&(decide (s3<(s0.length:Int))))||(!((decide ((nth s0 s3.toNat).State=1))&&(decide ((nth s0 s4.toNat).State=1))))) <| gd (((decide (0≤s4))&&(decide (s4<(s0.length:Int))))||(!((decide ((nth s0 s3.toNat).State=1))&&(decide ((nth s0 s4.toNat).State=1))))) <| bif ((decide ((nth s0 s3.toNat).State=1))&&(decide ((nth s0 s4.toNat).State=1))) then((D102 (nth s0 s3.toNat).Touch (nth s0 s4.toNat).Touch).bind fun y0=>bif y0.1 then(some (false,())) else L96_3364 s0 s3 (IntKind.wrap .i64 (s4+1))) else L96_3364 s0 s3 (IntKind.wrap .i64 (s4+1))) else L96_211 s0 s3):=(Ln_eq _ _ _).trans (by kernel_rfl)
theorem P96_211 (s0:List Fw.Tx) (s3:Int):L96_211 s0 s3=(L96_52 s0 (IntKind.wrap .i64 (s3+1))):=(Ln_eq _ _ _).trans (by kernel_rfl)
theorem E98 (x0:List Fw.Cell) (x1:Fw.Tx):D98 x0 x1=((D129 x1).bind fun y0=>(D134 x0 y0.1).bind fun y1=>some (y1.1,())):=(Dn_eq _ _).trans (by kernel_rfl)
noncomputable def L100_116 (s6:Int) (e0_0:List ByteArray) (e0_1:List ByteArray) (e3:List ByteArray) (e4:List ByteArray):Option (Fw.Touch×Unit):=Ln 148 116 (⟨50,[(3,.ok (.pt 0 0)),(4,.ok (.pt 1 0)),(5,.ok (.pt 2 0)),(6,.ok (.v (.int .i64 s6)))],[(0,.var [.ro 9 e0_0,.ro 9 e0_1] 86),(1,.var [.v (.slice none 0 0),.v (.slice none 0 0)] 86),(2,.var [.sl 3,.sl 4] 86),(3,.own 9 e3),(4,.own 9 e4)]⟩,5)
noncomputable def L100_15 (e0_0:List ByteArray) (e0_1:List ByteArray) (e3:List ByteArray) (e4:List ByteArray):Option (Fw.Touch×Unit):=Ln 148 15 (⟨50,[(3,.ok (.pt 0 0)),(4,.ok (.pt 1 0)),(5,.ok (.pt 2 0))],[(0,.var [.ro 9 e0_0,.ro 9 e0_1] 86),(1,.var [.v (.slice none 0 0),.v (.slice none 0 0)] 86),(2,.var [.sl 3,.sl 4] 86),(3,.own 9 e3),(4,.own 9 e4)]⟩,5)
noncomputable def L100_244 (s7:Int) (e0_0:List ByteArray) (e0_1:List ByteArray) (e3:List ByteArray) (e4:List ByteArray):Option (Fw.Touch×Unit):=Ln 148 244 (⟨50,[(3,.ok (.pt 0 0)),(4,.ok (.pt 1 0)),(5,.ok (.pt 2 0)),(7,.ok (.v (.int .i64 s7)))],[(0,.var [.ro 9 e0_0,.ro 9 e0_1] 86),(1,.var [.v (.slice none 0 0),.v (.slice none 0 0)] 86),(2,.var [.sl 3,.sl 4] 86),(3,.own 9 e3),(4,.own 9 e4)]⟩,5)
noncomputable def L100_31 (e2:List ByteArray) (e3:List ByteArray):Option (Fw.Touch×Unit):=Ln 148 31 (⟨50,[(4,.ok (.pt 0 0)),(5,.ok (.pt 1 0))],[(0,.var [.v (.slice none 0 0),.v (.slice none 0 0)] 86),(1,.var [.sl 2,.sl 3] 86),(2,.own 9 e2),(3,.own 9 e3)]⟩,4)
theorem E100 (x0:Fw.Touch) (x1:Fw.Touch):D100 x0 x1=(gd ((decide (((0+x0.Reads.length)*16)≤140737488355328))&&(decide ((0+x0.Reads.length)≤9223372036854775807))) <| gd ((decide (((0+x0.Writes.length)*16)≤140737488355328))&&(decide ((0+x0.Writes.length)≤9223372036854775807))) <| L100_116 0 x1.Reads x1.Writes ([]++x0.Reads) ([]++x0.Writes)):=(Dn_eq _ _).trans (by kernel_rfl)
theorem P100_116 (s6:Int) (e0_0:List ByteArray) (e0_1:List ByteArray) (e3:List ByteArray) (e4:List ByteArray):L100_116 s6 e0_0 e0_1 e3 e4=(bif (decide (s6<(e0_0.length:Int))) then(gd ((decide (0≤s6))&&(decide (s6<(e0_0.length:Int)))) <| (D135 e3 (nth e0_0 s6.toNat)).bind fun y0=>L100_116 (IntKind.wrap .i64 (s6+1)) e0_0 e0_1 y0.1 e4) else L100_15 e0_0 e0_1 e3 e4):=(Ln_eq _ _ _).trans (by kernel_rfl)
theorem P100_15 (e0_0:List ByteArray) (e0_1:List ByteArray) (e3:List ByteArray) (e4:List ByteArray):L100_15 e0_0 e0_1 e3 e4=(L100_244 0 e0_0 e0_1 e3 e4):=(Ln_eq _ _ _).trans (by kernel_rfl)
theorem P100_244 (s7:Int) (e0_0:List ByteArray) (e0_1:List ByteArray) (e3:List ByteArray) (e4:List ByteArray):L100_244 s7 e0_0 e0_1 e3 e4=(bif (decide (s7<(e0_1.length:Int))) then(gd ((decide (0≤s7))&&(decide (s7<(e0_1.length:Int)))) <| (D135 e4 (nth e0_1 s7.toNat)).bind fun y0=>L100_244 (IntKind.wrap .i64 (s7+1)) e0_0 e0_1 e3 y0.1) else L100_31 e3 e4):=(Ln_eq _ _ _).trans (by kernel_rfl)
theorem P100_31 (e2:List ByteArray) (e3:List ByteArray):L100_31 e2 e3=(some ((⟨e2,e3⟩:Fw.Touch),())):=(Ln_eq _ _ _).trans (by kernel_rfl)
noncomputable def L101_1038335 (s1:Int) (s27:Int) (s86:Bool) (e1:List Fw.Cell) (e2:List ByteArray) (e3:List ByteArray) (e4_0:Int) (e4_1:ByteArray) (e4_2:ByteArray) (e4_3:Int) (e4_4:Int) (e4_5:ByteArray) (e6_0:Int) (e6_1:Int) (e6_2:ByteArray) (e7_0:Int) (e7_1:Int) (e7_2:ByteArray):Option (Fw.Mach×Fw.Answer×Unit):=Ln 169 1038335 (⟨213,[(1,.ok (.v (.int .i64 s1))),(3,.ok (.pt 0 0)),(5,.ok (.pt 4 0)),(6,.ok (.pt 5 0)),(7,.ok (.pt 6 0)),(9,.ok (.pt 7 0)),(27,.ok (.v (.int .i64 s27))),(86,.ok (.v (.bool s86)))],[(0,.var [.sl 1,.sl 2,.sl 3] 219),(1,.own 97 e1),(2,.own 9 e2),(3,.own 9 e3),(4,.var [.v (.int .i64 e4_0),.v (.string e4_1),.v (.string e4_2),.v (.int .i64 e4_3),.v (.int .i64 e4_4),.v (.string e4_5)] 136),(5,.var [.v (.slice none 0 0),.v (.slice none 0 0),.v (.slice none 0 0)] 219),(6,.var [.v (.int .i64 e6_0),.v (.int .i64 e6_1),.v (.string e6_2)] 108),(7,.var [.v (.int .i64 e7_0),.v (.int .i64 e7_1),.v (.string e7_2)] 108)]⟩,8)
noncomputable def L101_127 (e1:List Fw.Cell) (e2:List ByteArray) (e3:List ByteArray) (e5_0:Int) (e5_1:Int) (e5_2:ByteArray) (e6_0:Int) (e6_1:Int) (e6_2:ByteArray):Option (Fw.Mach×Fw.Answer×Unit):=Ln 169 127 (⟨213,[(3,.ok (.pt 0 0)),(6,.ok (.pt 4 0)),(7,.ok (.pt 5 0)),(9,.ok (.pt 6 0))],[(0,.var [.sl 1,.sl 2,.sl 3] 219),(1,.own 97 e1),(2,.own 9 e2),(3,.own 9 e3),(4,.var [.v (.slice none 0 0),.v (.slice none 0 0),.v (.slice none 0 0)] 219),(5,.var [.v (.int .i64 e5_0),.v (.int .i64 e5_1),.v (.string e5_2)] 108),(6,.var [.v (.int .i64 e6_0),.v (.int .i64 e6_1),.v (.string e6_2)] 108)]⟩,7)
theorem E101 (x0:Fw.Mach) (x1:Int) (x2:Fw.Call):D101 x0 x1 x2=((D136 x0 x1).bind fun y0=>bif (!(decide (y0.2.1=1))) then(some (y0.1,((⟨2,0,(tx [])⟩:Fw.Answer),()))) else(D137 x2).bind fun y1=>bif (!y1.1) then(some (y0.1,((⟨4,0,(tx [])⟩:Fw.Answer),()))) else bif (decide (x2.Kind=1)) then((D138 y0.1 x2.Name).bind fun y6=>L101_127 y6.1.Store y6.1.Touch.Reads y6.1.Touch.Writes 0 0 (tx []) y6.2.2.1 y6.2.1 (tx [])) else bif (decide (x2.Kind=2)) then((D139 y0.1 x2.Name x2.To).bind fun y5=>L101_127 y5.1.Store y5.1.Touch.Reads y5.1.Touch.Writes 0 0 (tx []) y5.2.1 0 (tx [])) else bif (decide (x2.Kind=3)) then((D140 y0.1 x2.Name).bind fun y4=>L101_127 y4.1.Store y4.1.Touch.Reads y4.1.Touch.Writes 0 0 (tx []) y4.2.1 0 (tx [])) else bif (decide (x2.Kind=4)) then((D141 y0.1 x2.Name x2.To).bind fun y3=>L101_127 y3.1.Store y3.1.Touch.Reads y3.1.Touch.Writes 0 0 (tx []) y3.2.1 0 (tx [])) else bif (decide (x2.Kind=5)) then((D142 y0.1).bind fun y2=>some (y2.1,(y2.2.1,()))) else bif (decide (x2.Kind=6)) then(L101_1038335 x1 x2.Kind (decide (x2.Kind=6)) y0.1.Store y0.1.Touch.Reads y0.1.Touch.Writes x2.Kind x2.Name x2.To x2.A x2.B x2.Text 0 0 (tx []) 0 0 (tx [])) else bif (decide (x2.Kind=7)) then(L101_1038335 x1 x2.Kind (decide (x2.Kind=7)) y0.1.Store y0.1.Touch.Reads y0.1.Touch.Writes x2.Kind x2.Name x2.To x2.A x2.B x2.Text 0 0 (tx []) 0 0 (tx [])) else L101_1038335 x1 x2.Kind (decide (x2.Kind=8)) y0.1.Store y0.1.Touch.Reads y0.1.Touch.Writes x2.Kind x2.Name x2.To x2.A x2.B x2.Text 0 0 (tx []) 0 0 (tx [])):=(Dn_eq _ _).trans (by kernel_rfl)
theorem P101_1038335 (s1:Int) (s27:Int) (s86:Bool) (e1:List Fw.Cell) (e2:List ByteArray) (e3:List ByteArray) (e4_0:Int) (e4_1:ByteArray) (e4_2:ByteArray) (e4_3:Int) (e4_4:Int) (e4_5:ByteArray) (e6_0:Int) (e6_1:Int) (e6_2:ByteArray) (e7_0:Int) (e7_1:Int) (e7_2:ByteArray):L101_1038335 s1 s27 s86 e1 e2 e3 e4_0 e4_1 e4_2 e4_3 e4_4 e4_5 e6_0 e6_1 e6_2 e7_0 e7_1 e7_2=(bif s86 then((D143 (⟨e1,(⟨e2,e3⟩:Fw.Touch)⟩:Fw.Mach) (⟨e4_0,e4_1,e4_2,e4_3,e4_4,e4_5⟩:Fw.Call)).bind fun y11=>some (y11.1,(y11.2.1,()))) else bif (decide (s27=9)) then((D144 (⟨e1,(⟨e2,e3⟩:Fw.Touch)⟩:Fw.Mach)).bind fun y10=>L101_127 y10.1.Store y10.1.Touch.Reads y10.1.Touch.Writes e6_0 e6_1 e6_2 y10.2.2.1 y10.2.1 e7_2) else bif (decide (s27=10)) then((D145 (⟨e1,(⟨e2,e3⟩:Fw.Touch)⟩:Fw.Mach) e4_3 e4_5).bind fun y9=>L101_127 y9.1.Store y9.1.Touch.Reads y9.1.Touch.Writes e6_0 e6_1 e6_2 y9.2.1 e7_1 e7_2) else bif (decide (s27=11)) then((D146 (⟨e1,(⟨e2,e3⟩:Fw.Touch)⟩:Fw.Mach) e4_3).bind fun y8=>L101_127 y8.1.Store y8.1.Touch.Reads y8.1.Touch.Writes e6_0 e6_1 e6_2 y8.2.2.1 e7_1 y8.2.1) else bif (decide (s27=16)) then((D147 (⟨e1,(⟨e2,e3⟩:Fw.Touch)⟩:Fw.Mach) e4_3 e4_4).bind fun y7=>L101_127 y7.1.Store y7.1.Touch.Reads y7.1.Touch.Writes e6_0 e6_1 e6_2 y7.2.1 e7_1 e7_2) else bif (decide (s27=17)) then((D148 (⟨e1,(⟨e2,e3⟩:Fw.Touch)⟩:Fw.Mach) s1).bind fun y6=>L101_127 y6.1.Store y6.1.Touch.Reads y6.1.Touch.Writes e6_0 e6_1 e6_2 y6.2.2.1 y6.2.1 e7_2) else bif (decide (s27=18)) then((D149 (⟨e1,(⟨e2,e3⟩:Fw.Touch)⟩:Fw.Mach) s1 e4_3).bind fun y5=>L101_127 y5.1.Store y5.1.Touch.Reads y5.1.Touch.Writes e6_0 e6_1 e6_2 y5.2.1 e7_1 e7_2) else bif (decide (s27=19)) then((D150 (⟨e1,(⟨e2,e3⟩:Fw.Touch)⟩:Fw.Mach) e4_3).bind fun y4=>L101_127 y4.1.Store y4.1.Touch.Reads y4.1.Touch.Writes e6_0 e6_1 e6_2 y4.2.2.1 y4.2.1 e7_2) else bif (decide (s27=20)) then((D151 (⟨e1,(⟨e2,e3⟩:Fw.Touch)⟩:Fw.Mach) s1 e4_3 e4_5).bind fun y3=>L101_127 y3.1.Store y3.1.Touch.Reads y3.1.Touch.Writes e6_0 e6_1 e6_2 y3.2.1 e7_1 e7_2) else bif (decide (s27=21)) then((D152 (⟨e1,(⟨e2,e3⟩:Fw.Touch)⟩:Fw.Mach) s1 e4_3).bind fun y2=>L101_127 y2.1.Store y2.1.Touch.Reads y2.1.Touch.Writes e6_0 e6_1 e6_2 y2.2.2.1 e7_1 y2.2.1) else bif (decide (s27=22)) then((D153 (⟨e1,(⟨e2,e3⟩:Fw.Touch)⟩:Fw.Mach) e4_5).bind fun y1=>L101_127 y1.1.Store y1.1.Touch.Reads y1.1.Touch.Writes e6_0 e6_1 e6_2 y1.2.1 e7_1 e7_2) else(D154 (⟨e1,(⟨e2,e3⟩:Fw.Touch)⟩:Fw.Mach) s1 (⟨e4_0,e4_1,e4_2,e4_3,e4_4,e4_5⟩:Fw.Call)).bind fun y0=>some (y0.1,(y0.2.1,()))):=(Ln_eq _ _ _).trans (by kernel_rfl)
theorem P101_127 (e1:List Fw.Cell) (e2:List ByteArray) (e3:List ByteArray) (e5_0:Int) (e5_1:Int) (e5_2:ByteArray) (e6_0:Int) (e6_1:Int) (e6_2:ByteArray):L101_127 e1 e2 e3 e5_0 e5_1 e5_2 e6_0 e6_1 e6_2=(some ((⟨e1,(⟨e2,e3⟩:Fw.Touch)⟩:Fw.Mach),((⟨e6_0,e6_1,e6_2⟩:Fw.Answer),()))):=(Ln_eq _ _ _).trans (by kernel_rfl)
theorem E102 (x0:Fw.Touch) (x1:Fw.Touch):D102 x0 x1=((D155 x0.Writes x1.Reads).bind fun y0=>bif (!y0.1) then((D155 x0.Writes x1.Writes).bind fun y1=>bif (!y1.1) then((D155 x0.Reads x1.Writes).bind fun y2=>some (y2.1,())) else some (true,())) else some (true,())):=(Dn_eq _ _).trans (by kernel_rfl)
noncomputable def L103_116 (s0:List Fw.Cell) (s1:List Fw.Cell) (s6:Int) (e0:List ByteArray):Option ((List ByteArray)×Unit):=Ln 72 116 (⟨46,[(0,.ok (.ro 97 s0)),(1,.ok (.ro 97 s1)),(5,.ok (.sl 0)),(6,.ok (.v (.int .i64 s6)))],[(0,.own 9 e0)]⟩,1)
noncomputable def L103_15 (e0:List ByteArray):Option ((List ByteArray)×Unit):=Ln 72 15 (⟨46,[(5,.ok (.sl 0))],[(0,.own 9 e0)]⟩,1)
noncomputable def L103_3731 (s0:List Fw.Cell) (s1:List Fw.Cell) (s6:Int) (s7:ByteArray) (e0:List ByteArray):Option ((List ByteArray)×Unit):=Ln 72 3731 (⟨46,[(0,.ok (.ro 97 s0)),(1,.ok (.ro 97 s1)),(5,.ok (.sl 0)),(6,.ok (.v (.int .i64 s6))),(7,.ok (.v (.string s7)))],[(0,.own 9 e0)]⟩,1)
noncomputable def L103_467 (s0:List Fw.Cell) (s1:List Fw.Cell) (s6:Int) (e0:List ByteArray):Option ((List ByteArray)×Unit):=Ln 72 467 (⟨46,[(0,.ok (.ro 97 s0)),(1,.ok (.ro 97 s1)),(5,.ok (.sl 0)),(6,.ok (.v (.int .i64 s6)))],[(0,.own 9 e0)]⟩,1)
noncomputable def L103_467b (s0:List Fw.Cell) (s1:List Fw.Cell) (s5:List ByteArray) (s6:Int):Option ((List ByteArray)×Unit):=Ln 72 467 (⟨46,[(0,.ok (.ro 97 s0)),(1,.ok (.ro 97 s1)),(5,.ok (.ro 9 s5)),(6,.ok (.v (.int .i64 s6)))],[]⟩,0)
noncomputable def L103_116b (s0:List Fw.Cell) (s1:List Fw.Cell) (s5:List ByteArray) (s6:Int):Option ((List ByteArray)×Unit):=Ln 72 116 (⟨46,[(0,.ok (.ro 97 s0)),(1,.ok (.ro 97 s1)),(5,.ok (.ro 9 s5)),(6,.ok (.v (.int .i64 s6)))],[]⟩,0)
noncomputable def L103_15b (s5:List ByteArray):Option ((List ByteArray)×Unit):=Ln 72 15 (⟨46,[(5,.ok (.ro 9 s5))],[]⟩,0)
noncomputable def L103_3731b (s0:List Fw.Cell) (s1:List Fw.Cell) (s5:List ByteArray) (s6:Int) (s7:ByteArray):Option ((List ByteArray)×Unit):=Ln 72 3731 (⟨46,[(0,.ok (.ro 97 s0)),(1,.ok (.ro 97 s1)),(5,.ok (.ro 9 s5)),(6,.ok (.v (.int .i64 s6))),(7,.ok (.v (.string s7)))],[]⟩,0)
theorem E103 (x0:List Fw.Cell) (x1:List Fw.Cell):D103 x0 x1=(L103_116 x0 x1 0 []):=(Dn_eq _ _).trans (by kernel_rfl)
theorem P103_116 (s0:List Fw.Cell) (s1:List Fw.Cell) (s6:Int) (e0:List ByteArray):L103_116 s0 s1 s6 e0=(bif (decide (s6<(IntKind.wrap .i64 ((s0.length:Int)+(s1.length:Int))))) then(bif (decide (s6<(s0.length:Int))) then(gd ((decide (0≤s6))&&(decide (s6<(s0.length:Int)))) <| L103_3731 s0 s1 s6 (nth s0 s6.toNat).Key e0) else gd ((decide (0≤(IntKind.wrap .i64 (s6 - (s0.length:Int)))))&&(decide ((IntKind.wrap .i64 (s6 - (s0.length:Int)))<(s1.length:Int)))) <| L103_3731 s0 s1 s6 (nth s1 (IntKind.wrap .i64 (s6 - (s0.length:Int))).toNat).Key e0) else L103_15 e0):=(Ln_eq _ _ _).trans (by kernel_rfl)
theorem P103_15 (e0:List ByteArray):L103_15 e0=(some (e0,())):=(Ln_eq _ _ _).trans (by kernel_rfl)
theorem P103_3731 (s0:List Fw.Cell) (s1:List Fw.Cell) (s6:Int) (s7:ByteArray) (e0:List ByteArray):L103_3731 s0 s1 s6 s7 e0=((D104 s0 s7).bind fun y0=>(D104 s1 s7).bind fun y1=>bif (!(decide (y0.1=y1.1))) then((D156 e0 s7).bind fun y2=>L103_467b s0 s1 y2.1 s6) else L103_467 s0 s1 s6 e0):=(Ln_eq _ _ _).trans (by kernel_rfl)
theorem P103_467 (s0:List Fw.Cell) (s1:List Fw.Cell) (s6:Int) (e0:List ByteArray):L103_467 s0 s1 s6 e0=(L103_116 s0 s1 (IntKind.wrap .i64 (s6+1)) e0):=(Ln_eq _ _ _).trans (by kernel_rfl)
theorem P103_467b (s0:List Fw.Cell) (s1:List Fw.Cell) (s5:List ByteArray) (s6:Int):L103_467b s0 s1 s5 s6=(L103_116b s0 s1 s5 (IntKind.wrap .i64 (s6+1))):=(Ln_eq _ _ _).trans (by kernel_rfl)
theorem P103_116b (s0:List Fw.Cell) (s1:List Fw.Cell) (s5:List ByteArray) (s6:Int):L103_116b s0 s1 s5 s6=(bif (decide (s6<(IntKind.wrap .i64 ((s0.length:Int)+(s1.length:Int))))) then(bif (decide (s6<(s0.length:Int))) then(gd ((decide (0≤s6))&&(decide (s6<(s0.length:Int)))) <| L103_3731b s0 s1 s5 s6 (nth s0 s6.toNat).Key) else gd ((decide (0≤(IntKind.wrap .i64 (s6 - (s0.length:Int)))))&&(decide ((IntKind.wrap .i64 (s6 - (s0.length:Int)))<(s1.length:Int)))) <| L103_3731b s0 s1 s5 s6 (nth s1 (IntKind.wrap .i64 (s6 - (s0.length:Int))).toNat).Key) else L103_15b s5):=(Ln_eq _ _ _).trans (by kernel_rfl)
theorem P103_15b (s5:List ByteArray):L103_15b s5=(some (s5,())):=(Ln_eq _ _ _).trans (by kernel_rfl)
theorem P103_3731b (s0:List Fw.Cell) (s1:List Fw.Cell) (s5:List ByteArray) (s6:Int) (s7:ByteArray):L103_3731b s0 s1 s5 s6 s7=((D104 s0 s7).bind fun y0=>(D104 s1 s7).bind fun y1=>bif (!(decide (y0.1=y1.1))) then((D156 s5 s7).bind fun y2=>L103_467b s0 s1 y2.1 s6) else L103_467b s0 s1 s5 s6):=(Ln_eq _ _ _).trans (by kernel_rfl)
noncomputable def L104_52 (s0:List Fw.Cell) (s1:ByteArray) (s5:Int):Option (ByteArray×Unit):=Ln 73 52 (⟨24,[(0,.ok (.ro 97 s0)),(1,.ok (.v (.string s1))),(5,.ok (.v (.int .i64 s5)))],[]⟩,0)
noncomputable def L104_7  : Option (ByteArray×Unit):=Ln 73 7 (⟨24,[],[]⟩,0)
theorem E104 (x0:List Fw.Cell) (x1:ByteArray):D104 x0 x1=(L104_52 x0 x1 0):=(Dn_eq _ _).trans (by kernel_rfl)
theorem P104_52 (s0:List Fw.Cell) (s1:ByteArray) (s5:Int):L104_52 s0 s1 s5=(bif (decide (s5<(s0.length:Int))) then(gd ((decide (0≤s5))&&(decide (s5<(s0.length:Int)))) <| bif (decide ((nth s0 s5.toNat).Key=s1)) then(gd ((decide (0≤s5))&&(decide (s5<(s0.length:Int)))) <| some ((nth s0 s5.toNat).Val,())) else L104_52 s0 s1 (IntKind.wrap .i64 (s5+1))) else L104_7):=(Ln_eq _ _ _).trans (by kernel_rfl)
theorem P104_7  : L104_7=(some ((tx []),())):=(Ln_eq _ _ _).trans (by kernel_rfl)
theorem E106 (x0:Int) (x1:Int) (x2:Int):D106 x0 x1 x2=(bif ((decide (x2<x1))||(decide (x0<x1))) then(some (x1,())) else bif (decide (x0>x2)) then(some (x2,())) else some (x0,())):=(Dn_eq _ _).trans (by kernel_rfl)
noncomputable def L108_244 (s1:List Fw.Cell) (s6:Int) (e0:List UInt8):Option (ByteArray×Unit):=Ln 74 244 (⟨85,[(1,.ok (.ro 97 s1)),(5,.ok (.sl 0)),(6,.ok (.v (.int .i64 s6)))],[(0,.own 5 e0)]⟩,1)
noncomputable def L108_31 (e0:List UInt8):Option (ByteArray×Unit):=Ln 74 31 (⟨85,[(5,.ok (.sl 0))],[(0,.own 5 e0)]⟩,1)
theorem E108 (x0:Int) (x1:List Fw.Cell):D108 x0 x1=((D27 x0 1 100000).bind fun y0=>bif (!y0.1) then(some ((tx []),())) else(D122 x0).bind fun y1=>L108_244 x1 0 ((sbytes y1.1).map fun x=>x)):=(Dn_eq _ _).trans (by kernel_rfl)
theorem P108_244 (s1:List Fw.Cell) (s6:Int) (e0:List UInt8):L108_244 s1 s6 e0=(bif (decide (s6<(s1.length:Int))) then(gd ((decide (0≤s6))&&(decide (s6<(s1.length:Int)))) <| (D132 (nth s1 s6.toNat).Key).bind fun y0=>gd (((decide (0≤s6))&&(decide (s6<(s1.length:Int))))||(!(!(!y0.1)))) <| bif (((!y0.1)||(decide (((nth s1 s6.toNat).Val.size:Int)>60)))||(decide ((e0.length:Int)>4000))) then(some ((tx []),())) else gd ((decide (0≤s6))&&(decide (s6<(s1.length:Int)))) <| (D157 (nth s1 s6.toNat).Key).bind fun y1=>gd ((decide (0≤s6))&&(decide (s6<(s1.length:Int)))) <| (D157 (nth s1 s6.toNat).Val).bind fun y2=>gd ((decide (((e0.length+1)*1)≤140737488355328))&&(decide ((e0.length+1)≤9223372036854775807))) <| gd ((decide ((((e0++[(u8of 32)]).length+y1.1.size)*1)≤140737488355328))&&(decide (((e0++[(u8of 32)]).length+y1.1.size)≤9223372036854775807))) <| gd ((decide (((((e0++[(u8of 32)])++((sbytes y1.1).map fun x=>x)).length+1)*1)≤140737488355328))&&(decide ((((e0++[(u8of 32)])++((sbytes y1.1).map fun x=>x)).length+1)≤9223372036854775807))) <| gd ((decide ((((((e0++[(u8of 32)])++((sbytes y1.1).map fun x=>x))++[(u8of 61)]).length+y2.1.size)*1)≤140737488355328))&&(decide (((((e0++[(u8of 32)])++((sbytes y1.1).map fun x=>x))++[(u8of 61)]).length+y2.1.size)≤9223372036854775807))) <| L108_244 s1 (IntKind.wrap .i64 (s6+1)) ((((e0++[(u8of 32)])++((sbytes y1.1).map fun x=>x))++[(u8of 61)])++((sbytes y2.1).map fun x=>x))) else L108_31 e0):=(Ln_eq _ _ _).trans (by kernel_rfl)
theorem P108_31 (e0:List UInt8):L108_31 e0=(gd (decide (((bstr (e0.map fun x=>x)).size+(tx [32,35]).size)≤9223372036854775807)) <| (D158 (bstr (e0.map fun x=>x))).bind fun y0=>(D122 y0.1).bind fun y1=>gd (decide ((((bstr (e0.map fun x=>x))++(tx [32,35])).size+y1.1.size)≤9223372036854775807)) <| gd (decide (((((bstr (e0.map fun x=>x))++(tx [32,35]))++y1.1).size+(tx [10]).size)≤9223372036854775807)) <| bif (decide ((((((bstr (e0.map fun x=>x))++(tx [32,35]))++y1.1)++(tx [10])).size:Int)>4000)) then(some ((tx []),())) else some (((((bstr (e0.map fun x=>x))++(tx [32,35]))++y1.1)++(tx [10])),())):=(Ln_eq _ _ _).trans (by kernel_rfl)
theorem E109 (x0:Fw.Journal) (x1:ByteArray):D109 x0 x1=((D110 x0).bind fun y0=>bif ((!y0.1)||(decide ((x1.size:Int)>(IntKind.wrap .i64 (20000 - (x0.Text.size:Int)))))) then(some (x0,(false,()))) else gd (decide ((x0.Text.size+x1.size)≤9223372036854775807)) <| some ((⟨(x0.Text++x1),x0.Sure⟩:Fw.Journal),(true,()))):=(Dn_eq _ _).trans (by kernel_rfl)
theorem E110 (x0:Fw.Journal):D110 x0=(bif (decide ((x0.Text.size:Int)≤20000)) then((D27 x0.Sure 0 (x0.Text.size:Int)).bind fun y0=>some (y0.1,())) else some (false,())):=(Dn_eq _ _).trans (by kernel_rfl)
theorem E111 (x0:ByteArray):D111 x0=((D159 x0).bind fun y0=>bif ((!y0.2.1)||(decide (y0.1>999))) then(some (0,())) else some (y0.1,())):=(Dn_eq _ _).trans (by kernel_rfl)
theorem E112 (x0:ByteArray) (x1:Int) (x2:ByteArray):D112 x0 x1 x2=((D122 x1).bind fun y0=>gd (decide ((x0.size+y0.1.size)≤9223372036854775807)) <| gd (decide (((x0++y0.1).size+x2.size)≤9223372036854775807)) <| some (((x0++y0.1)++x2),())):=(Dn_eq _ _).trans (by kernel_rfl)
noncomputable def L113_244 (s0:ByteArray) (s5:Int) (e0:List UInt8):Option (ByteArray×Bool×Unit):=Ln 266 244 (⟨49,[(0,.ok (.v (.string s0))),(4,.ok (.sl 0)),(5,.ok (.v (.int .i64 s5)))],[(0,.own 5 e0)]⟩,1)
noncomputable def L113_31 (e0:List UInt8):Option (ByteArray×Bool×Unit):=Ln 266 31 (⟨49,[(4,.ok (.sl 0))],[(0,.own 5 e0)]⟩,1)
theorem E113 (x0:ByteArray):D113 x0=(gd ((!(decide (2=0)))||(!(!(decide ((x0.size:Int)>40000))))) <| bif ((decide ((x0.size:Int)>40000))||(!(decide ((Int.tmod (x0.size:Int) 2)=0)))) then(some ((tx []),(false,()))) else L113_244 x0 0 []):=(Dn_eq _ _).trans (by kernel_rfl)
theorem P113_244 (s0:ByteArray) (s5:Int) (e0:List UInt8):L113_244 s0 s5 e0=(bif (decide (s5<(s0.size:Int))) then(gd ((decide (0≤s5))&&(decide (s5<(s0.size:Int)))) <| (D160 (u8of ((byteAt s0 s5.toNat).toNat:Int))).bind fun y0=>gd ((decide (0≤(IntKind.wrap .i64 (s5+1))))&&(decide ((IntKind.wrap .i64 (s5+1))<(s0.size:Int)))) <| (D160 (u8of ((byteAt s0 (IntKind.wrap .i64 (s5+1)).toNat).toNat:Int))).bind fun y1=>bif ((decide (y0.1<0))||(decide (y1.1<0))) then(some ((tx []),(false,()))) else gd ((decide (((e0.length+1)*1)≤140737488355328))&&(decide ((e0.length+1)≤9223372036854775807))) <| L113_244 s0 (IntKind.wrap .i64 (s5+2)) (e0++[(u8of (IntKind.wrap .u8 (IntKind.wrap .i64 ((IntKind.wrap .i64 (16*y0.1))+y1.1))))])) else L113_31 e0):=(Ln_eq _ _ _).trans (by kernel_rfl)
theorem P113_31 (e0:List UInt8):L113_31 e0=(some ((bstr (e0.map fun x=>x)),(true,()))):=(Ln_eq _ _ _).trans (by kernel_rfl)
end Go.Proofs.YtapfpflmcgfbkaaGreatDoor.Ri

namespace Go.Proofs.YtapfpflmcgfbkaaGreatDoor.Ri
open Go.Proofs.YtapfpflmcgfbkaaGreatDoor.Fw
open Go.RowKit
set_option linter.unusedVariables false
set_option maxRecDepth 100000
noncomputable def L114_116 (s3:Int) (s4:Int) (e0_0:List Fw.Slot) (e0_1:ByteArray) (e0_2:Int):Option (Int×Unit):=Ln 111 116 (⟨39,[(1,.ok (.pt 0 0)),(3,.ok (.v (.int .i64 s3))),(4,.ok (.v (.int .i64 s4)))],[(0,.var [.ro 144 e0_0,.v (.string e0_1),.v (.int .i64 e0_2)] 40)]⟩,1)
noncomputable def L114_15 (s3:Int):Option (Int×Unit):=Ln 111 15 (⟨39,[(3,.ok (.v (.int .i64 s3)))],[]⟩,0)
noncomputable def L114_467 (s3:Int) (s4:Int) (e0_0:List Fw.Slot) (e0_1:ByteArray) (e0_2:Int):Option (Int×Unit):=Ln 111 467 (⟨39,[(1,.ok (.pt 0 0)),(3,.ok (.v (.int .i64 s3))),(4,.ok (.v (.int .i64 s4)))],[(0,.var [.ro 144 e0_0,.v (.string e0_1),.v (.int .i64 e0_2)] 40)]⟩,1)
theorem E114 (x0:Fw.Disk):D114 x0=(L114_116 (-1) 0 x0.Slots x0.Journal.Text x0.Journal.Sure):=(Dn_eq _ _).trans (by kernel_rfl)
theorem P114_116 (s3:Int) (s4:Int) (e0_0:List Fw.Slot) (e0_1:ByteArray) (e0_2:Int):L114_116 s3 s4 e0_0 e0_1 e0_2=(bif (decide (s4<(e0_0.length:Int))) then(gd ((decide (0≤s4))&&(decide (s4<(e0_0.length:Int)))) <| gd (((decide (0≤s4))&&(decide (s4<(e0_0.length:Int))))||(!((nth e0_0 s4.toNat).Whole&&(!(decide (s3<0)))))) <| gd (((decide (0≤s3))&&(decide (s3<(e0_0.length:Int))))||(!((nth e0_0 s4.toNat).Whole&&(!(decide (s3<0)))))) <| bif ((nth e0_0 s4.toNat).Whole&&((decide (s3<0))||(decide ((nth e0_0 s4.toNat).Seq>(nth e0_0 s3.toNat).Seq)))) then(L114_467 s4 s4 e0_0 e0_1 e0_2) else L114_467 s3 s4 e0_0 e0_1 e0_2) else L114_15 s3):=(Ln_eq _ _ _).trans (by kernel_rfl)
theorem P114_15 (s3:Int):L114_15 s3=(some (s3,())):=(Ln_eq _ _ _).trans (by kernel_rfl)
theorem P114_467 (s3:Int) (s4:Int) (e0_0:List Fw.Slot) (e0_1:ByteArray) (e0_2:Int):L114_467 s3 s4 e0_0 e0_1 e0_2=(L114_116 s3 (IntKind.wrap .i64 (s4+1)) e0_0 e0_1 e0_2):=(Ln_eq _ _ _).trans (by kernel_rfl)
noncomputable def L122_248 (s0:Int) (s3:Bool) (s4:ByteArray):Option (ByteArray×Unit):=Ln 117 248 (⟨30,[(0,.ok (.v (.int .i64 s0))),(3,.ok (.v (.bool s3))),(4,.ok (.v (.string s4)))],[]⟩,0)
noncomputable def L122_63 (s3:Bool) (s4:ByteArray):Option (ByteArray×Unit):=Ln 117 63 (⟨30,[(3,.ok (.v (.bool s3))),(4,.ok (.v (.string s4)))],[]⟩,0)
noncomputable def L122_3979 (s0:Int) (s3:Bool) (s4:ByteArray) (s5:Int):Option (ByteArray×Unit):=Ln 117 3979 (⟨30,[(0,.ok (.v (.int .i64 s0))),(3,.ok (.v (.bool s3))),(4,.ok (.v (.string s4))),(5,.ok (.v (.int .i64 s5)))],[]⟩,0)
theorem E122 (x0:Int):D122 x0=(bif (decide (x0=0)) then(some ((tx [48]),())) else L122_248 x0 (decide (x0<0)) (tx [])):=(Dn_eq _ _).trans (by kernel_rfl)
theorem P122_248 (s0:Int) (s3:Bool) (s4:ByteArray):L122_248 s0 s3 s4=(bif (!(decide (s0=0))) then(gd (!(decide (10=0))) <| bif (decide ((Int.tmod s0 10)<0)) then(L122_3979 s0 s3 s4 (IntKind.wrap .i64 (-(Int.tmod s0 10)))) else L122_3979 s0 s3 s4 (Int.tmod s0 10)) else L122_63 s3 s4):=(Ln_eq _ _ _).trans (by kernel_rfl)
theorem P122_63 (s3:Bool) (s4:ByteArray):L122_63 s3 s4=(bif s3 then(gd (decide (((tx [45]).size+s4.size)≤9223372036854775807)) <| some (((tx [45])++s4),())) else some (s4,())):=(Ln_eq _ _ _).trans (by kernel_rfl)
theorem P122_3979 (s0:Int) (s3:Bool) (s4:ByteArray) (s5:Int):L122_3979 s0 s3 s4 s5=((D163 s5).bind fun y0=>gd (decide (((bstr ([(u8of (y0.1.toNat:Int))].map fun x=>x)).size+s4.size)≤9223372036854775807)) <| gd (!(decide (10=0))) <| L122_248 (IntKind.wrap .i64 (Int.tdiv s0 10)) s3 ((bstr ([(u8of (y0.1.toNat:Int))].map fun x=>x))++s4)):=(Ln_eq _ _ _).trans (by kernel_rfl)
theorem E128 (x0:List Fw.Cell) (x1:Fw.Tx):D128 x0 x1=((D98 x0 x1).bind fun y0=>(D164 x0 y0.1 x1.Touch).bind fun y1=>some (y1.1,())):=(Dn_eq _ _).trans (by kernel_rfl)
noncomputable def L129_116 (s4:Int) (e0_0:Int) (e0_1:Int) (e0_2:Int) (e0_3:Int) (e0_4:List Fw.Call) (e0_5:List Fw.Answer) (e0_6:List ByteArray) (e0_7:List ByteArray) (e0_8:List Int) (e0_9:Int) (e1:List Fw.Step):Option ((List Fw.Step)×Unit):=Ln 37 116 (⟨25,[(1,.ok (.pt 0 0)),(3,.ok (.sl 1)),(4,.ok (.v (.int .i64 s4)))],[(0,.var [.v (.int .i64 e0_0),.v (.int .i64 e0_1),.v (.int .i64 e0_2),.v (.int .i64 e0_3),.ro 136 e0_4,.ro 108 e0_5,.ro 9 e0_6,.ro 9 e0_7,.ro 3 e0_8,.v (.int .i64 e0_9)] 88),(1,.own 138 e1)]⟩,2)
noncomputable def L129_15 (e0:List Fw.Step):Option ((List Fw.Step)×Unit):=Ln 37 15 (⟨25,[(3,.ok (.sl 0))],[(0,.own 138 e0)]⟩,1)
theorem E129 (x0:Fw.Tx):D129 x0=(L129_116 0 x0.Id x0.Age x0.Proc x0.Began x0.Calls x0.Answers x0.Touch.Reads x0.Touch.Writes x0.Marks x0.State []):=(Dn_eq _ _).trans (by kernel_rfl)
theorem P129_116 (s4:Int) (e0_0:Int) (e0_1:Int) (e0_2:Int) (e0_3:Int) (e0_4:List Fw.Call) (e0_5:List Fw.Answer) (e0_6:List ByteArray) (e0_7:List ByteArray) (e0_8:List Int) (e0_9:Int) (e1:List Fw.Step):L129_116 s4 e0_0 e0_1 e0_2 e0_3 e0_4 e0_5 e0_6 e0_7 e0_8 e0_9 e1=(bif (decide (s4<(e0_4.length:Int))) then(gd ((decide (0≤s4))&&(decide (s4<(e0_4.length:Int)))) <| gd ((decide (((e1.length+1)*80)≤140737488355328))&&(decide ((e1.length+1)≤9223372036854775807))) <| L129_116 (IntKind.wrap .i64 (s4+1)) e0_0 e0_1 e0_2 e0_3 e0_4 e0_5 e0_6 e0_7 e0_8 e0_9 (e1++[(⟨e0_2,(nth e0_4 s4.toNat)⟩:Fw.Step)])) else L129_15 e1):=(Ln_eq _ _ _).trans (by kernel_rfl)
theorem P129_15 (e0:List Fw.Step):L129_15 e0=(some (e0,())):=(Ln_eq _ _ _).trans (by kernel_rfl)
theorem E130 (x0:Fw.Mach) (x1:ByteArray):D130 x0 x1=((D135 x0.Touch.Reads x1).bind fun y0=>(D104 x0.Store x1).bind fun y1=>some ((⟨x0.Store,(⟨y0.1,x0.Touch.Writes⟩:Fw.Touch)⟩:Fw.Mach),(y1.1,()))):=(Dn_eq _ _).trans (by kernel_rfl)
theorem E131 (x0:Fw.Mach) (x1:ByteArray) (x2:ByteArray):D131 x0 x1 x2=((D135 x0.Touch.Writes x1).bind fun y0=>(D162 x0.Store x1 x2).bind fun y1=>some ((⟨y1.1,(⟨x0.Touch.Reads,y0.1⟩:Fw.Touch)⟩:Fw.Mach),())):=(Dn_eq _ _).trans (by kernel_rfl)
noncomputable def L132_52 (s0:ByteArray) (s3:Int):Option (Bool×Unit):=Ln 110 52 (⟨25,[(0,.ok (.v (.string s0))),(3,.ok (.v (.int .i64 s3)))],[]⟩,0)
noncomputable def L132_7 (s0:ByteArray):Option (Bool×Unit):=Ln 110 7 (⟨25,[(0,.ok (.v (.string s0)))],[]⟩,0)
theorem E132 (x0:ByteArray):D132 x0=(L132_52 x0 0):=(Dn_eq _ _).trans (by kernel_rfl)
theorem P132_52 (s0:ByteArray) (s3:Int):L132_52 s0 s3=(bif (decide (s3<(s0.size:Int))) then(gd ((decide (0≤s3))&&(decide (s3<(s0.size:Int)))) <| (D27 (IntKind.wrap .i64 ((byteAt s0 s3.toNat).toNat:Int)) 33 126).bind fun y0=>gd (((decide (0≤s3))&&(decide (s3<(s0.size:Int))))||(!(!(!y0.1)))) <| bif ((!y0.1)||(decide (((byteAt s0 s3.toNat).toNat:Int)=42))) then(some (false,())) else L132_52 s0 (IntKind.wrap .i64 (s3+1))) else L132_7 s0):=(Ln_eq _ _ _).trans (by kernel_rfl)
theorem P132_7 (s0:ByteArray):L132_7 s0=((D27 (s0.size:Int) 1 40).bind fun y0=>some (y0.1,())):=(Ln_eq _ _ _).trans (by kernel_rfl)
noncomputable def L134_500 (s1:List Fw.Step) (s9:Int) (e0:List Fw.Cell) (e2:List Fw.Answer):Option ((List Fw.Cell)×(List Fw.Answer)×Fw.Touch×Unit):=Ln 115 500 (⟨51,[(0,.ok (.sl 0)),(1,.ok (.ro 138 s1)),(6,.ok (.pt 1 0)),(7,.ok (.sl 2)),(8,.ok (.pt 3 0)),(9,.ok (.v (.int .i64 s9)))],[(0,.own 97 e0),(1,.var [.v (.slice none 0 0),.v (.slice none 0 0)] 86),(2,.own 108 e2),(3,.var [.v (.slice none 0 0),.v (.slice none 0 0)] 86)]⟩,4)
noncomputable def L134_63 (e0:List Fw.Cell) (e2:List Fw.Answer):Option ((List Fw.Cell)×(List Fw.Answer)×Fw.Touch×Unit):=Ln 115 63 (⟨51,[(0,.ok (.sl 0)),(6,.ok (.pt 1 0)),(7,.ok (.sl 2)),(8,.ok (.pt 3 0))],[(0,.own 97 e0),(1,.var [.v (.slice none 0 0),.v (.slice none 0 0)] 86),(2,.own 108 e2),(3,.var [.v (.slice none 0 0),.v (.slice none 0 0)] 86)]⟩,4)
noncomputable def L134_500b (s1:List Fw.Step) (s9:Int) (e0:List Fw.Cell) (e2:List Fw.Answer) (e4:List ByteArray) (e5:List ByteArray):Option ((List Fw.Cell)×(List Fw.Answer)×Fw.Touch×Unit):=Ln 115 500 (⟨51,[(0,.ok (.sl 0)),(1,.ok (.ro 138 s1)),(6,.ok (.pt 1 0)),(7,.ok (.sl 2)),(8,.ok (.pt 3 0)),(9,.ok (.v (.int .i64 s9)))],[(0,.own 97 e0),(1,.var [.v (.slice none 0 0),.v (.slice none 0 0)] 86),(2,.own 108 e2),(3,.var [.sl 4,.sl 5] 86),(4,.own 9 e4),(5,.own 9 e5)]⟩,6)
noncomputable def L134_63b (e0:List Fw.Cell) (e2:List Fw.Answer) (e4:List ByteArray) (e5:List ByteArray):Option ((List Fw.Cell)×(List Fw.Answer)×Fw.Touch×Unit):=Ln 115 63 (⟨51,[(0,.ok (.sl 0)),(6,.ok (.pt 1 0)),(7,.ok (.sl 2)),(8,.ok (.pt 3 0))],[(0,.own 97 e0),(1,.var [.v (.slice none 0 0),.v (.slice none 0 0)] 86),(2,.own 108 e2),(3,.var [.sl 4,.sl 5] 86),(4,.own 9 e4),(5,.own 9 e5)]⟩,6)
theorem E134 (x0:List Fw.Cell) (x1:List Fw.Step):D134 x0 x1=(gd ((decide (((0+x0.length)*32)≤140737488355328))&&(decide ((0+x0.length)≤9223372036854775807))) <| L134_500 x1 0 ([]++x0) []):=(Dn_eq _ _).trans (by kernel_rfl)
theorem P134_500 (s1:List Fw.Step) (s9:Int) (e0:List Fw.Cell) (e2:List Fw.Answer):L134_500 s1 s9 e0 e2=(bif (decide (s9<(s1.length:Int))) then(gd ((decide (0≤s9))&&(decide (s9<(s1.length:Int)))) <| gd ((decide (0≤s9))&&(decide (s9<(s1.length:Int)))) <| (D64 e0 (nth s1 s9.toNat).Proc (nth s1 s9.toNat).Call).bind fun y0=>gd ((decide (((e2.length+1)*32)≤140737488355328))&&(decide ((e2.length+1)≤9223372036854775807))) <| (D100 (⟨[],[]⟩:Fw.Touch) y0.2.2.1).bind fun y1=>L134_500b s1 (IntKind.wrap .i64 (s9+1)) y0.1 (e2++[y0.2.1]) y1.1.Reads y1.1.Writes) else L134_63 e0 e2):=(Ln_eq _ _ _).trans (by kernel_rfl)
theorem P134_63 (e0:List Fw.Cell) (e2:List Fw.Answer):L134_63 e0 e2=(some (e0,(e2,((⟨[],[]⟩:Fw.Touch),())))):=(Ln_eq _ _ _).trans (by kernel_rfl)
theorem P134_500b (s1:List Fw.Step) (s9:Int) (e0:List Fw.Cell) (e2:List Fw.Answer) (e4:List ByteArray) (e5:List ByteArray):L134_500b s1 s9 e0 e2 e4 e5=(bif (decide (s9<(s1.length:Int))) then(gd ((decide (0≤s9))&&(decide (s9<(s1.length:Int)))) <| gd ((decide (0≤s9))&&(decide (s9<(s1.length:Int)))) <| (D64 e0 (nth s1 s9.toNat).Proc (nth s1 s9.toNat).Call).bind fun y0=>gd ((decide (((e2.length+1)*32)≤140737488355328))&&(decide ((e2.length+1)≤9223372036854775807))) <| (D100 (⟨e4,e5⟩:Fw.Touch) y0.2.2.1).bind fun y1=>L134_500b s1 (IntKind.wrap .i64 (s9+1)) y0.1 (e2++[y0.2.1]) y1.1.Reads y1.1.Writes) else L134_63b e0 e2 e4 e5):=(Ln_eq _ _ _).trans (by kernel_rfl)
theorem P134_63b (e0:List Fw.Cell) (e2:List Fw.Answer) (e4:List ByteArray) (e5:List ByteArray):L134_63b e0 e2 e4 e5=(some (e0,(e2,((⟨e4,e5⟩:Fw.Touch),())))):=(Ln_eq _ _ _).trans (by kernel_rfl)
theorem E135 (x0:List ByteArray) (x1:ByteArray):D135 x0 x1=((D156 x0 x1).bind fun y0=>gd ((decide (((0+y0.1.length)*16)≤140737488355328))&&(decide ((0+y0.1.length)≤9223372036854775807))) <| some (([]++y0.1),())):=(Dn_eq _ _).trans (by kernel_rfl)
theorem E136 (x0:Fw.Mach) (x1:Int):D136 x0 x1=((D91 x1 (tx [47,115])).bind fun y0=>(D88 x0 y0.1).bind fun y1=>some (y1.1,(y1.2.1,()))):=(Dn_eq _ _).trans (by kernel_rfl)
theorem E137 (x0:Fw.Call):D137 x0=((D27 x0.Kind 1 22).bind fun y0=>some ((((y0.1&&(decide ((x0.Name.size:Int)≤20)))&&(decide ((x0.To.size:Int)≤20)))&&(decide ((x0.Text.size:Int)≤64))),())):=(Dn_eq _ _).trans (by kernel_rfl)
theorem E138 (x0:Fw.Mach) (x1:ByteArray):D138 x0 x1=((D165 x1).bind fun y0=>bif (!y0.1) then(some (x0,(0,(4,())))) else(D166 x0 x1).bind fun y1=>bif (!(decide (y1.2.1=0))) then(some (y1.1,(0,(1,())))) else(D88 y1.1 (tx [99,47,102,105,108,101])).bind fun y2=>bif (decide (y2.2.1≥20)) then(some (y2.1,(0,(3,())))) else(D89 y2.1 (tx [99,47,102,105,108,101])).bind fun y3=>gd (decide (((tx [110,47]).size+x1.size)≤9223372036854775807)) <| (D90 y3.1 ((tx [110,47])++x1) y3.2.1).bind fun y4=>(D112 (tx [105,47]) y3.2.1 (tx [47,108])).bind fun y5=>(D90 y4.1 y5.1 1).bind fun y6=>some (y6.1,(y3.2.1,(0,())))):=(Dn_eq _ _).trans (by kernel_rfl)
theorem E139 (x0:Fw.Mach) (x1:ByteArray) (x2:ByteArray):D139 x0 x1 x2=((D165 x1).bind fun y0=>bif (!(!y0.1)) then((D165 x2).bind fun y1=>bif (!y1.1) then(some (x0,(4,()))) else(D166 x0 x1).bind fun y2=>bif (decide (y2.2.1=0)) then(some (y2.1,(2,()))) else(D166 y2.1 x2).bind fun y3=>bif (!(decide (y3.2.1=0))) then(some (y3.1,(1,()))) else(D112 (tx [105,47]) y2.2.1 (tx [47,108])).bind fun y4=>(D88 y3.1 y4.1).bind fun y5=>bif (decide (y5.2.1≥4)) then(some (y5.1,(3,()))) else gd (decide (((tx [110,47]).size+x2.size)≤9223372036854775807)) <| (D90 y5.1 ((tx [110,47])++x2) y2.2.1).bind fun y6=>(D112 (tx [105,47]) y2.2.1 (tx [47,108])).bind fun y7=>(D90 y6.1 y7.1 (IntKind.wrap .i64 (y5.2.1+1))).bind fun y8=>some (y8.1,(0,()))) else some (x0,(4,()))):=(Dn_eq _ _).trans (by kernel_rfl)
theorem E140 (x0:Fw.Mach) (x1:ByteArray):D140 x0 x1=((D165 x1).bind fun y0=>bif (!y0.1) then(some (x0,(4,()))) else(D166 x0 x1).bind fun y1=>bif (decide (y1.2.1=0)) then(some (y1.1,(2,()))) else gd (decide (((tx [110,47]).size+x1.size)≤9223372036854775807)) <| (D131 y1.1 ((tx [110,47])++x1) (tx [])).bind fun y2=>(D112 (tx [105,47]) y1.2.1 (tx [47,108])).bind fun y3=>(D88 y2.1 y3.1).bind fun y4=>bif (decide (y4.2.1>1)) then((D112 (tx [105,47]) y1.2.1 (tx [47,108])).bind fun y7=>(D90 y4.1 y7.1 (IntKind.wrap .i64 (y4.2.1 - 1))).bind fun y8=>some (y8.1,(0,()))) else(D112 (tx [105,47]) y1.2.1 (tx [47])).bind fun y5=>(D167 y4.1 y5.1).bind fun y6=>some (y6.1,(0,()))):=(Dn_eq _ _).trans (by kernel_rfl)
noncomputable def L141_255 (s1:ByteArray) (s2:ByteArray) (s8:Int) (e1:List Fw.Cell) (e2:List ByteArray) (e3:List ByteArray):Option (Fw.Mach×Int×Unit):=Ln 192 255 (⟨55,[(1,.ok (.v (.string s1))),(2,.ok (.v (.string s2))),(3,.ok (.pt 0 0)),(6,.ok (.pt 4 0)),(8,.ok (.v (.int .i64 s8)))],[(0,.var [.sl 1,.sl 2,.sl 3] 219),(1,.own 97 e1),(2,.own 9 e2),(3,.own 9 e3),(4,.var [.v (.slice none 0 0),.v (.slice none 0 0),.v (.slice none 0 0)] 219)]⟩,5)
theorem E141 (x0:Fw.Mach) (x1:ByteArray) (x2:ByteArray):D141 x0 x1 x2=((D165 x1).bind fun y0=>bif (!(!y0.1)) then((D165 x2).bind fun y1=>bif (!y1.1) then(some (x0,(4,()))) else(D166 x0 x1).bind fun y2=>bif (decide (y2.2.1=0)) then(some (y2.1,(2,()))) else(D166 y2.1 x2).bind fun y3=>bif (decide (y3.2.1=y2.2.1)) then(some (y3.1,(0,()))) else bif (!(decide (y3.2.1=0))) then((D140 y3.1 x2).bind fun y4=>L141_255 x1 x2 y2.2.1 y4.1.Store y4.1.Touch.Reads y4.1.Touch.Writes) else L141_255 x1 x2 y2.2.1 y3.1.Store y3.1.Touch.Reads y3.1.Touch.Writes) else some (x0,(4,()))):=(Dn_eq _ _).trans (by kernel_rfl)
theorem P141_255 (s1:ByteArray) (s2:ByteArray) (s8:Int) (e1:List Fw.Cell) (e2:List ByteArray) (e3:List ByteArray):L141_255 s1 s2 s8 e1 e2 e3=(gd (decide (((tx [110,47]).size+s2.size)≤9223372036854775807)) <| (D90 (⟨e1,(⟨e2,e3⟩:Fw.Touch)⟩:Fw.Mach) ((tx [110,47])++s2) s8).bind fun y0=>gd (decide (((tx [110,47]).size+s1.size)≤9223372036854775807)) <| (D131 y0.1 ((tx [110,47])++s1) (tx [])).bind fun y1=>some (y1.1,(0,()))):=(Ln_eq _ _ _).trans (by kernel_rfl)
noncomputable def L142_244 (s6:Int) (e1:List Fw.Cell) (e2:List ByteArray) (e3:List ByteArray) (e5_0:Int) (e5_1:Int) (e5_2:ByteArray) (e6:List ByteArray) (e7_0:Int) (e7_1:Int) (e7_2:ByteArray):Option (Fw.Mach×Fw.Answer×Unit):=Ln 193 244 (⟨30,[(1,.ok (.pt 0 0)),(2,.ok (.pt 4 0)),(3,.ok (.pt 5 0)),(4,.ok (.sl 6)),(5,.ok (.pt 7 0)),(6,.ok (.v (.int .i64 s6)))],[(0,.var [.sl 1,.sl 2,.sl 3] 219),(1,.own 97 e1),(2,.own 9 e2),(3,.own 9 e3),(4,.var [.v (.slice none 0 0),.v (.slice none 0 0),.v (.slice none 0 0)] 219),(5,.var [.v (.int .i64 e5_0),.v (.int .i64 e5_1),.v (.string e5_2)] 108),(6,.own 9 e6),(7,.var [.v (.int .i64 e7_0),.v (.int .i64 e7_1),.v (.string e7_2)] 108)]⟩,8)
noncomputable def L142_31 (e1:List Fw.Cell) (e2:List ByteArray) (e3:List ByteArray) (e5_0:Int) (e5_1:Int) (e5_2:ByteArray) (e6_0:Int) (e6_1:Int) (e6_2:ByteArray):Option (Fw.Mach×Fw.Answer×Unit):=Ln 193 31 (⟨30,[(1,.ok (.pt 0 0)),(2,.ok (.pt 4 0)),(3,.ok (.pt 5 0)),(5,.ok (.pt 6 0))],[(0,.var [.sl 1,.sl 2,.sl 3] 219),(1,.own 97 e1),(2,.own 9 e2),(3,.own 9 e3),(4,.var [.v (.slice none 0 0),.v (.slice none 0 0),.v (.slice none 0 0)] 219),(5,.var [.v (.int .i64 e5_0),.v (.int .i64 e5_1),.v (.string e5_2)] 108),(6,.var [.v (.int .i64 e6_0),.v (.int .i64 e6_1),.v (.string e6_2)] 108)]⟩,7)
theorem E142 (x0:Fw.Mach):D142 x0=((D168 x0).bind fun y0=>L142_244 0 y0.1.Store y0.1.Touch.Reads y0.1.Touch.Writes 0 0 (tx []) y0.2.1 0 0 (tx [])):=(Dn_eq _ _).trans (by kernel_rfl)
theorem P142_244 (s6:Int) (e1:List Fw.Cell) (e2:List ByteArray) (e3:List ByteArray) (e5_0:Int) (e5_1:Int) (e5_2:ByteArray) (e6:List ByteArray) (e7_0:Int) (e7_1:Int) (e7_2:ByteArray):L142_244 s6 e1 e2 e3 e5_0 e5_1 e5_2 e6 e7_0 e7_1 e7_2=(bif (decide (s6<(e6.length:Int))) then(gd ((decide (0≤s6))&&(decide (s6<(e6.length:Int)))) <| gd (decide ((e7_2.size+(nth e6 s6.toNat).size)≤9223372036854775807)) <| gd (decide (((e7_2++(nth e6 s6.toNat)).size+(tx [32]).size)≤9223372036854775807)) <| L142_244 (IntKind.wrap .i64 (s6+1)) e1 e2 e3 e5_0 e5_1 e5_2 e6 e7_0 e7_1 ((e7_2++(nth e6 s6.toNat))++(tx [32]))) else L142_31 e1 e2 e3 e5_0 e5_1 e5_2 e7_0 e7_1 e7_2):=(Ln_eq _ _ _).trans (by kernel_rfl)
theorem P142_31 (e1:List Fw.Cell) (e2:List ByteArray) (e3:List ByteArray) (e5_0:Int) (e5_1:Int) (e5_2:ByteArray) (e6_0:Int) (e6_1:Int) (e6_2:ByteArray):L142_31 e1 e2 e3 e5_0 e5_1 e5_2 e6_0 e6_1 e6_2=(some ((⟨e1,(⟨e2,e3⟩:Fw.Touch)⟩:Fw.Mach),((⟨e6_0,e6_1,e6_2⟩:Fw.Answer),()))):=(Ln_eq _ _ _).trans (by kernel_rfl)
noncomputable def L143_63 (e1:List Fw.Cell) (e2:List ByteArray) (e3:List ByteArray) (e5_0:Int) (e5_1:Int) (e5_2:ByteArray) (e6_0:Int) (e6_1:Int) (e6_2:ByteArray):Option (Fw.Mach×Fw.Answer×Unit):=Ln 194 63 (⟨59,[(2,.ok (.pt 0 0)),(4,.ok (.pt 4 0)),(5,.ok (.pt 5 0)),(7,.ok (.pt 6 0))],[(0,.var [.sl 1,.sl 2,.sl 3] 219),(1,.own 97 e1),(2,.own 9 e2),(3,.own 9 e3),(4,.var [.v (.slice none 0 0),.v (.slice none 0 0),.v (.slice none 0 0)] 219),(5,.var [.v (.int .i64 e5_0),.v (.int .i64 e5_1),.v (.string e5_2)] 108),(6,.var [.v (.int .i64 e6_0),.v (.int .i64 e6_1),.v (.string e6_2)] 108)]⟩,7)
theorem E143 (x0:Fw.Mach) (x1:Fw.Call):D143 x0 x1=((D166 x0 x1.Name).bind fun y0=>bif (decide (y0.2.1=0)) then(some (y0.1,((⟨2,0,(tx [])⟩:Fw.Answer),()))) else bif (decide (x1.Kind=6)) then((D169 y0.1 y0.2.1 x1.A x1.B).bind fun y3=>L143_63 y3.1.Store y3.1.Touch.Reads y3.1.Touch.Writes 0 0 (tx []) 0 0 y3.2.1) else bif (decide (x1.Kind=7)) then((D170 y0.1 y0.2.1 x1.A x1.Text).bind fun y2=>L143_63 y2.1.Store y2.1.Touch.Reads y2.1.Touch.Writes 0 0 (tx []) y2.2.1 0 (tx [])) else(D171 y0.1 y0.2.1 x1.A).bind fun y1=>L143_63 y1.1.Store y1.1.Touch.Reads y1.1.Touch.Writes 0 0 (tx []) y1.2.1 0 (tx [])):=(Dn_eq _ _).trans (by kernel_rfl)
theorem P143_63 (e1:List Fw.Cell) (e2:List ByteArray) (e3:List ByteArray) (e5_0:Int) (e5_1:Int) (e5_2:ByteArray) (e6_0:Int) (e6_1:Int) (e6_2:ByteArray):L143_63 e1 e2 e3 e5_0 e5_1 e5_2 e6_0 e6_1 e6_2=(some ((⟨e1,(⟨e2,e3⟩:Fw.Touch)⟩:Fw.Mach),((⟨e6_0,e6_1,e6_2⟩:Fw.Answer),()))):=(Ln_eq _ _ _).trans (by kernel_rfl)
theorem E144 (x0:Fw.Mach):D144 x0=((D88 x0 (tx [99,47,112,105,112,101])).bind fun y0=>bif (decide (y0.2.1≥8)) then(some (y0.1,(0,(3,())))) else(D89 y0.1 (tx [99,47,112,105,112,101])).bind fun y1=>(D172 y1.2.1 (tx [47,111])).bind fun y2=>(D90 y1.1 y2.1 1).bind fun y3=>some (y3.1,(y1.2.1,(0,())))):=(Dn_eq _ _).trans (by kernel_rfl)
theorem E145 (x0:Fw.Mach) (x1:Int) (x2:ByteArray):D145 x0 x1 x2=((D173 x0 x1).bind fun y0=>bif (!y0.2.1) then(some (y0.1,(2,()))) else bif (decide ((x2.size:Int)>20)) then(some (y0.1,(4,()))) else(D172 x1 (tx [47,116])).bind fun y1=>(D88 y0.1 y1.1).bind fun y2=>(D172 x1 (tx [47,104])).bind fun y3=>(D88 y2.1 y3.1).bind fun y4=>bif (decide ((IntKind.wrap .i64 (y2.2.1 - y4.2.1))≥4)) then(some (y4.1,(5,()))) else bif (decide (y2.2.1≥999)) then(some (y4.1,(3,()))) else(D157 x2).bind fun y5=>(D172 x1 (tx [47,116])).bind fun y6=>(D90 y4.1 y6.1 (IntKind.wrap .i64 (y2.2.1+1))).bind fun y7=>(D174 x1 (IntKind.wrap .i64 (y2.2.1+1))).bind fun y8=>gd (decide (((tx [45]).size+y5.1.size)≤9223372036854775807)) <| (D131 y7.1 y8.1 ((tx [45])++y5.1)).bind fun y9=>some (y9.1,(0,()))):=(Dn_eq _ _).trans (by kernel_rfl)
noncomputable def L146_1023 (s1:Int) (s8:Int) (s11:ByteArray) (e1:List Fw.Cell) (e2:List ByteArray) (e3:List ByteArray):Option (Fw.Mach×ByteArray×Int×Unit):=Ln 197 1023 (⟨74,[(1,.ok (.v (.int .i64 s1))),(2,.ok (.pt 0 0)),(4,.ok (.pt 4 0)),(8,.ok (.v (.int .i64 s8))),(11,.ok (.v (.string s11)))],[(0,.var [.sl 1,.sl 2,.sl 3] 219),(1,.own 97 e1),(2,.own 9 e2),(3,.own 9 e3),(4,.var [.v (.slice none 0 0),.v (.slice none 0 0),.v (.slice none 0 0)] 219)]⟩,5)
theorem E146 (x0:Fw.Mach) (x1:Int):D146 x0 x1=((D173 x0 x1).bind fun y0=>bif (!y0.2.1) then(some (y0.1,((tx []),(2,())))) else(D172 x1 (tx [47,104])).bind fun y1=>(D88 y0.1 y1.1).bind fun y2=>(D172 x1 (tx [47,116])).bind fun y3=>(D88 y2.1 y3.1).bind fun y4=>bif (decide (y2.2.1=y4.2.1)) then(some (y4.1,((tx []),(5,())))) else(D174 x1 (IntKind.wrap .i64 (y2.2.1+1))).bind fun y5=>(D130 y4.1 y5.1).bind fun y6=>gd (((decide (0≤0))&&(decide (0<(y6.2.1.size:Int))))||(!(!(decide (y6.2.1=(tx [])))))) <| bif ((!(decide (y6.2.1=(tx []))))&&(decide (((byteAt y6.2.1 (0:Int).toNat).toNat:Int)=45))) then(gd ((decide (0≤1))&&((decide (1≤(y6.2.1.size:Int)))&&(decide ((y6.2.1.size:Int)≤(y6.2.1.size:Int))))) <| (D113 (cutS y6.2.1 (1:Int).toNat (y6.2.1.size:Int).toNat)).bind fun y7=>L146_1023 x1 y2.2.1 y7.1 y6.1.Store y6.1.Touch.Reads y6.1.Touch.Writes) else L146_1023 x1 y2.2.1 (tx []) y6.1.Store y6.1.Touch.Reads y6.1.Touch.Writes):=(Dn_eq _ _).trans (by kernel_rfl)
theorem P146_1023 (s1:Int) (s8:Int) (s11:ByteArray) (e1:List Fw.Cell) (e2:List ByteArray) (e3:List ByteArray):L146_1023 s1 s8 s11 e1 e2 e3=((D174 s1 (IntKind.wrap .i64 (s8+1))).bind fun y0=>(D131 (⟨e1,(⟨e2,e3⟩:Fw.Touch)⟩:Fw.Mach) y0.1 (tx [])).bind fun y1=>(D172 s1 (tx [47,104])).bind fun y2=>(D90 y1.1 y2.1 (IntKind.wrap .i64 (s8+1))).bind fun y3=>some (y3.1,(s11,(0,())))):=(Ln_eq _ _ _).trans (by kernel_rfl)
theorem E147 (x0:Fw.Mach) (x1:Int) (x2:Int):D147 x0 x1 x2=((D136 x0 x1).bind fun y0=>bif (!(decide (y0.2.1=1))) then(some (y0.1,(2,()))) else(D27 x2 1 31).bind fun y1=>bif (!y1.1) then(some (y0.1,(4,()))) else(D175 x1 (tx [47,116])).bind fun y2=>(D88 y0.1 y2.1).bind fun y3=>(D175 x1 (tx [47,104])).bind fun y4=>(D88 y3.1 y4.1).bind fun y5=>bif (decide ((IntKind.wrap .i64 (y3.2.1 - y5.2.1))≥4)) then(some (y5.1,(5,()))) else bif (decide (y3.2.1≥999)) then(some (y5.1,(3,()))) else(D175 x1 (tx [47,116])).bind fun y6=>(D90 y5.1 y6.1 (IntKind.wrap .i64 (y3.2.1+1))).bind fun y7=>(D176 x1 (IntKind.wrap .i64 (y3.2.1+1))).bind fun y8=>(D90 y7.1 y8.1 x2).bind fun y9=>some (y9.1,(0,()))):=(Dn_eq _ _).trans (by kernel_rfl)
theorem E148 (x0:Fw.Mach) (x1:Int):D148 x0 x1=((D175 x1 (tx [47,104])).bind fun y0=>(D88 x0 y0.1).bind fun y1=>(D175 x1 (tx [47,116])).bind fun y2=>(D88 y1.1 y2.1).bind fun y3=>bif (decide (y1.2.1=y3.2.1)) then(some (y3.1,(0,(5,())))) else(D176 x1 (IntKind.wrap .i64 (y1.2.1+1))).bind fun y4=>(D88 y3.1 y4.1).bind fun y5=>(D176 x1 (IntKind.wrap .i64 (y1.2.1+1))).bind fun y6=>(D131 y5.1 y6.1 (tx [])).bind fun y7=>(D175 x1 (tx [47,104])).bind fun y8=>(D90 y7.1 y8.1 (IntKind.wrap .i64 (y1.2.1+1))).bind fun y9=>some (y9.1,(y5.2.1,(0,())))):=(Dn_eq _ _).trans (by kernel_rfl)
end Go.Proofs.YtapfpflmcgfbkaaGreatDoor.Ri

namespace Go.Proofs.YtapfpflmcgfbkaaGreatDoor.Ri
open Go.Proofs.YtapfpflmcgfbkaaGreatDoor.Fw
open Go.RowKit
set_option linter.unusedVariables false
set_option maxRecDepth 100000
theorem E149 (x0:Fw.Mach) (x1:Int) (x2:Int):D149 x0 x1 x2=((D27 x2 0 999).bind fun y0=>bif (!y0.1) then(some (x0,(4,()))) else(D112 (tx [116,47]) x1 (tx [])).bind fun y1=>(D90 x0 y1.1 x2).bind fun y2=>some (y2.1,(0,()))):=(Dn_eq _ _).trans (by kernel_rfl)
noncomputable def L150_4084 (s1:Int) (s7:Int) (s9:Int) (s10:Int) (e1:List Fw.Cell) (e2:List ByteArray) (e3:List ByteArray) (e5:List ByteArray):Option (Fw.Mach×Int×Int×Unit):=Ln 201 4084 (⟨76,[(1,.ok (.v (.int .i64 s1))),(2,.ok (.pt 0 0)),(4,.ok (.pt 4 0)),(7,.ok (.v (.int .i64 s7))),(8,.ok (.sl 5)),(9,.ok (.v (.int .i64 s9))),(10,.ok (.v (.int .i64 s10)))],[(0,.var [.sl 1,.sl 2,.sl 3] 219),(1,.own 97 e1),(2,.own 9 e2),(3,.own 9 e3),(4,.var [.v (.slice none 0 0),.v (.slice none 0 0),.v (.slice none 0 0)] 219),(5,.own 9 e5)]⟩,6)
noncomputable def L150_511 (s9:Int) (e1:List Fw.Cell) (e2:List ByteArray) (e3:List ByteArray):Option (Fw.Mach×Int×Int×Unit):=Ln 201 511 (⟨76,[(2,.ok (.pt 0 0)),(4,.ok (.pt 4 0)),(9,.ok (.v (.int .i64 s9)))],[(0,.var [.sl 1,.sl 2,.sl 3] 219),(1,.own 97 e1),(2,.own 9 e2),(3,.own 9 e3),(4,.var [.v (.slice none 0 0),.v (.slice none 0 0),.v (.slice none 0 0)] 219)]⟩,5)
noncomputable def L150_16339 (s1:Int) (s7:Int) (s9:Int) (s10:Int) (e1:List Fw.Cell) (e2:List ByteArray) (e3:List ByteArray) (e5:List ByteArray):Option (Fw.Mach×Int×Int×Unit):=Ln 201 16339 (⟨76,[(1,.ok (.v (.int .i64 s1))),(2,.ok (.pt 0 0)),(4,.ok (.pt 4 0)),(7,.ok (.v (.int .i64 s7))),(8,.ok (.sl 5)),(9,.ok (.v (.int .i64 s9))),(10,.ok (.v (.int .i64 s10)))],[(0,.var [.sl 1,.sl 2,.sl 3] 219),(1,.own 97 e1),(2,.own 9 e2),(3,.own 9 e3),(4,.var [.v (.slice none 0 0),.v (.slice none 0 0),.v (.slice none 0 0)] 219),(5,.own 9 e5)]⟩,6)
theorem E150 (x0:Fw.Mach) (x1:Int):D150 x0 x1=(bif (decide (x1<1)) then(some (x0,(0,(4,())))) else(D88 x0 (tx [99,47,99,108,111,99,107])).bind fun y0=>bif (decide (x1>(IntKind.wrap .i64 (999 - y0.2.1)))) then(some (y0.1,(0,(3,())))) else(D90 y0.1 (tx [99,47,99,108,111,99,107]) (IntKind.wrap .i64 (y0.2.1+x1))).bind fun y1=>(D177 y1.1 (tx [116,47])).bind fun y2=>L150_4084 x1 y0.2.1 0 0 y2.1.Store y2.1.Touch.Reads y2.1.Touch.Writes y2.2.1):=(Dn_eq _ _).trans (by kernel_rfl)
theorem P150_4084 (s1:Int) (s7:Int) (s9:Int) (s10:Int) (e1:List Fw.Cell) (e2:List ByteArray) (e3:List ByteArray) (e5:List ByteArray):L150_4084 s1 s7 s9 s10 e1 e2 e3 e5=(bif (decide (s10<(e5.length:Int))) then(gd ((decide (0≤s10))&&(decide (s10<(e5.length:Int)))) <| (D88 (⟨e1,(⟨e2,e3⟩:Fw.Touch)⟩:Fw.Mach) (nth e5 s10.toNat)).bind fun y0=>bif (decide (y0.2.1≤(IntKind.wrap .i64 (s7+s1)))) then(gd ((decide (0≤s10))&&(decide (s10<(e5.length:Int)))) <| (D131 y0.1 (nth e5 s10.toNat) (tx [])).bind fun y1=>gd ((decide (0≤s10))&&(decide (s10<(e5.length:Int)))) <| gd ((decide (0≤2))&&((decide (2≤((nth e5 s10.toNat).size:Int)))&&(decide (((nth e5 s10.toNat).size:Int)≤((nth e5 s10.toNat).size:Int))))) <| (D111 (cutS (nth e5 s10.toNat) (2:Int).toNat ((nth e5 s10.toNat).size:Int).toNat)).bind fun y2=>(D147 y1.1 y2.1 14).bind fun y3=>L150_16339 s1 s7 (IntKind.wrap .i64 (s9+1)) s10 y3.1.Store y3.1.Touch.Reads y3.1.Touch.Writes e5) else L150_16339 s1 s7 s9 s10 y0.1.Store y0.1.Touch.Reads y0.1.Touch.Writes e5) else L150_511 s9 e1 e2 e3):=(Ln_eq _ _ _).trans (by kernel_rfl)
theorem P150_511 (s9:Int) (e1:List Fw.Cell) (e2:List ByteArray) (e3:List ByteArray):L150_511 s9 e1 e2 e3=(some ((⟨e1,(⟨e2,e3⟩:Fw.Touch)⟩:Fw.Mach),(s9,(0,())))):=(Ln_eq _ _ _).trans (by kernel_rfl)
theorem P150_16339 (s1:Int) (s7:Int) (s9:Int) (s10:Int) (e1:List Fw.Cell) (e2:List ByteArray) (e3:List ByteArray) (e5:List ByteArray):L150_16339 s1 s7 s9 s10 e1 e2 e3 e5=(L150_4084 s1 s7 s9 (IntKind.wrap .i64 (s10+1)) e1 e2 e3 e5):=(Ln_eq _ _ _).trans (by kernel_rfl)
theorem E151 (x0:Fw.Mach) (x1:Int) (x2:Int) (x3:ByteArray):D151 x0 x1 x2 x3=((D27 x2 0 3).bind fun y0=>bif ((!y0.1)||(decide ((x3.size:Int)>20))) then(some (x0,(4,()))) else bif (decide (x3=(tx []))) then((D178 x1).bind fun y5=>(D112 y5.1 x2 (tx [])).bind fun y6=>(D131 x0 y6.1 (tx [])).bind fun y7=>some (y7.1,(0,()))) else(D157 x3).bind fun y1=>(D178 x1).bind fun y2=>(D112 y2.1 x2 (tx [])).bind fun y3=>gd (decide (((tx [45]).size+y1.1.size)≤9223372036854775807)) <| (D131 x0 y3.1 ((tx [45])++y1.1)).bind fun y4=>some (y4.1,(0,()))):=(Dn_eq _ _).trans (by kernel_rfl)
noncomputable def L152_63 (s10:ByteArray) (e1:List Fw.Cell) (e2:List ByteArray) (e3:List ByteArray):Option (Fw.Mach×ByteArray×Int×Unit):=Ln 203 63 (⟨39,[(3,.ok (.pt 0 0)),(6,.ok (.pt 4 0)),(10,.ok (.v (.string s10)))],[(0,.var [.sl 1,.sl 2,.sl 3] 219),(1,.own 97 e1),(2,.own 9 e2),(3,.own 9 e3),(4,.var [.v (.slice none 0 0),.v (.slice none 0 0),.v (.slice none 0 0)] 219)]⟩,5)
theorem E152 (x0:Fw.Mach) (x1:Int) (x2:Int):D152 x0 x1 x2=((D27 x2 0 3).bind fun y0=>bif (!y0.1) then(some (x0,((tx []),(4,())))) else(D178 x1).bind fun y1=>(D112 y1.1 x2 (tx [])).bind fun y2=>(D130 x0 y2.1).bind fun y3=>gd (((decide (0≤0))&&(decide (0<(y3.2.1.size:Int))))||(!(!(decide (y3.2.1=(tx [])))))) <| bif ((!(decide (y3.2.1=(tx []))))&&(decide (((byteAt y3.2.1 (0:Int).toNat).toNat:Int)=45))) then(gd ((decide (0≤1))&&((decide (1≤(y3.2.1.size:Int)))&&(decide ((y3.2.1.size:Int)≤(y3.2.1.size:Int))))) <| (D113 (cutS y3.2.1 (1:Int).toNat (y3.2.1.size:Int).toNat)).bind fun y4=>L152_63 y4.1 y3.1.Store y3.1.Touch.Reads y3.1.Touch.Writes) else L152_63 (tx []) y3.1.Store y3.1.Touch.Reads y3.1.Touch.Writes):=(Dn_eq _ _).trans (by kernel_rfl)
theorem P152_63 (s10:ByteArray) (e1:List Fw.Cell) (e2:List ByteArray) (e3:List ByteArray):L152_63 s10 e1 e2 e3=(some ((⟨e1,(⟨e2,e3⟩:Fw.Touch)⟩:Fw.Mach),(s10,(0,())))):=(Ln_eq _ _ _).trans (by kernel_rfl)
theorem E153 (x0:Fw.Mach) (x1:ByteArray):D153 x0 x1=(bif ((decide (x1=(tx [])))||(decide ((x1.size:Int)>20))) then(some (x0,(4,()))) else(D88 x0 (tx [100,47,110])).bind fun y0=>bif (decide (y0.2.1≥40)) then(some (y0.1,(3,()))) else(D157 x1).bind fun y1=>(D90 y0.1 (tx [100,47,110]) (IntKind.wrap .i64 (y0.2.1+1))).bind fun y2=>(D112 (tx [100,47]) (IntKind.wrap .i64 (y0.2.1+1)) (tx [])).bind fun y3=>gd (decide (((tx [45]).size+y1.1.size)≤9223372036854775807)) <| (D131 y2.1 y3.1 ((tx [45])++y1.1)).bind fun y4=>some (y4.1,(0,()))):=(Dn_eq _ _).trans (by kernel_rfl)
noncomputable def L154_120828 (s10:Int) (e1:List Fw.Cell) (e2:List ByteArray) (e3:List ByteArray) (e5_0:Int) (e5_1:Int) (e5_2:ByteArray) (e6_0:Int) (e6_1:Int) (e6_2:ByteArray) (e7:List Int):Option (Fw.Mach×Fw.Answer×Unit):=Ln 205 120828 (⟨88,[(3,.ok (.pt 0 0)),(6,.ok (.pt 4 0)),(7,.ok (.pt 5 0)),(8,.ok (.pt 6 0)),(9,.ok (.sl 7)),(10,.ok (.v (.int .i64 s10)))],[(0,.var [.sl 1,.sl 2,.sl 3] 219),(1,.own 97 e1),(2,.own 9 e2),(3,.own 9 e3),(4,.var [.v (.slice none 0 0),.v (.slice none 0 0),.v (.slice none 0 0)] 219),(5,.var [.v (.int .i64 e5_0),.v (.int .i64 e5_1),.v (.string e5_2)] 108),(6,.var [.v (.int .i64 e6_0),.v (.int .i64 e6_1),.v (.string e6_2)] 108),(7,.own 3 e7)]⟩,8)
noncomputable def L154_15 (e1:List Fw.Cell) (e2:List ByteArray) (e3:List ByteArray) (e5_0:Int) (e5_1:Int) (e5_2:ByteArray) (e6_0:Int) (e6_1:Int) (e6_2:ByteArray):Option (Fw.Mach×Fw.Answer×Unit):=Ln 205 15 (⟨88,[(3,.ok (.pt 0 0)),(6,.ok (.pt 4 0)),(7,.ok (.pt 5 0)),(8,.ok (.pt 6 0))],[(0,.var [.sl 1,.sl 2,.sl 3] 219),(1,.own 97 e1),(2,.own 9 e2),(3,.own 9 e3),(4,.var [.v (.slice none 0 0),.v (.slice none 0 0),.v (.slice none 0 0)] 219),(5,.var [.v (.int .i64 e5_0),.v (.int .i64 e5_1),.v (.string e5_2)] 108),(6,.var [.v (.int .i64 e6_0),.v (.int .i64 e6_1),.v (.string e6_2)] 108)]⟩,7)
theorem E154 (x0:Fw.Mach) (x1:Int) (x2:Fw.Call):D154 x0 x1 x2=(bif (decide (x2.Kind=12)) then((D52 x0 x1).bind fun y4=>bif (decide (y4.2.2.1=0)) then((D179 y4.1 x1 y4.2.1).bind fun y5=>L154_15 y5.1.Store y5.1.Touch.Reads y5.1.Touch.Writes 0 0 (tx []) y4.2.2.1 y4.2.1 (tx [])) else L154_15 y4.1.Store y4.1.Touch.Reads y4.1.Touch.Writes 0 0 (tx []) y4.2.2.1 y4.2.1 (tx [])) else bif (decide (x2.Kind=13)) then((D180 x0 x1 x2.A).bind fun y2=>bif (decide (y2.2.1=0)) then((D181 y2.1 x1).bind fun y3=>L154_15 y3.1.Store y3.1.Touch.Reads y3.1.Touch.Writes 0 0 (tx []) y2.2.1 0 (tx [])) else L154_15 y2.1.Store y2.1.Touch.Reads y2.1.Touch.Writes 0 0 (tx []) y2.2.1 0 (tx [])) else bif (decide (x2.Kind=14)) then((D182 x0 x1 x2.A).bind fun y1=>L154_15 y1.1.Store y1.1.Touch.Reads y1.1.Touch.Writes 0 0 (tx []) y1.2.2.1 y1.2.1 (tx [])) else(D183 x0 x1).bind fun y0=>L154_120828 0 y0.1.Store y0.1.Touch.Reads y0.1.Touch.Writes 0 0 (tx []) 0 0 (tx []) y0.2.1):=(Dn_eq _ _).trans (by kernel_rfl)
theorem P154_120828 (s10:Int) (e1:List Fw.Cell) (e2:List ByteArray) (e3:List ByteArray) (e5_0:Int) (e5_1:Int) (e5_2:ByteArray) (e6_0:Int) (e6_1:Int) (e6_2:ByteArray) (e7:List Int):L154_120828 s10 e1 e2 e3 e5_0 e5_1 e5_2 e6_0 e6_1 e6_2 e7=(bif (decide (s10<(e7.length:Int))) then(gd ((decide (0≤s10))&&(decide (s10<(e7.length:Int)))) <| (D122 (nth e7 s10.toNat)).bind fun y0=>gd (decide ((e6_2.size+y0.1.size)≤9223372036854775807)) <| gd (decide (((e6_2++y0.1).size+(tx [32]).size)≤9223372036854775807)) <| L154_120828 (IntKind.wrap .i64 (s10+1)) e1 e2 e3 e5_0 e5_1 e5_2 e6_0 e6_1 ((e6_2++y0.1)++(tx [32])) e7) else L154_15 e1 e2 e3 e5_0 e5_1 e5_2 e6_0 e6_1 e6_2):=(Ln_eq _ _ _).trans (by kernel_rfl)
theorem P154_15 (e1:List Fw.Cell) (e2:List ByteArray) (e3:List ByteArray) (e5_0:Int) (e5_1:Int) (e5_2:ByteArray) (e6_0:Int) (e6_1:Int) (e6_2:ByteArray):L154_15 e1 e2 e3 e5_0 e5_1 e5_2 e6_0 e6_1 e6_2=(some ((⟨e1,(⟨e2,e3⟩:Fw.Touch)⟩:Fw.Mach),((⟨e6_0,e6_1,e6_2⟩:Fw.Answer),()))):=(Ln_eq _ _ _).trans (by kernel_rfl)
noncomputable def L155_52 (s0:List ByteArray) (s1:List ByteArray) (s5:Int):Option (Bool×Unit):=Ln 146 52 (⟨28,[(0,.ok (.ro 9 s0)),(1,.ok (.ro 9 s1)),(5,.ok (.v (.int .i64 s5)))],[]⟩,0)
noncomputable def L155_7  : Option (Bool×Unit):=Ln 146 7 (⟨28,[],[]⟩,0)
noncomputable def L155_3364 (s0:List ByteArray) (s1:List ByteArray) (s5:Int) (s6:Int):Option (Bool×Unit):=Ln 146 3364 (⟨28,[(0,.ok (.ro 9 s0)),(1,.ok (.ro 9 s1)),(5,.ok (.v (.int .i64 s5))),(6,.ok (.v (.int .i64 s6)))],[]⟩,0)
noncomputable def L155_211 (s0:List ByteArray) (s1:List ByteArray) (s5:Int):Option (Bool×Unit):=Ln 146 211 (⟨28,[(0,.ok (.ro 9 s0)),(1,.ok (.ro 9 s1)),(5,.ok (.v (.int .i64 s5)))],[]⟩,0)
theorem E155 (x0:List ByteArray) (x1:List ByteArray):D155 x0 x1=(L155_52 x0 x1 0):=(Dn_eq _ _).trans (by kernel_rfl)
theorem P155_52 (s0:List ByteArray) (s1:List ByteArray) (s5:Int):L155_52 s0 s1 s5=(bif (decide (s5<(s0.length:Int))) then(L155_3364 s0 s1 s5 0) else L155_7):=(Ln_eq _ _ _).trans (by kernel_rfl)
theorem P155_7  : L155_7=(some (false,())):=(Ln_eq _ _ _).trans (by kernel_rfl)
theorem P155_3364 (s0:List ByteArray) (s1:List ByteArray) (s5:Int) (s6:Int):L155_3364 s0 s1 s5 s6=(bif (decide (s6<(s1.length:Int))) then(gd ((decide (0≤s5))&&(decide (s5<(s0.length:Int)))) <| gd ((decide (0≤s6))&&(decide (s6<(s1.length:Int)))) <| (D184 (nth s0 s5.toNat) (nth s1 s6.toNat)).bind fun y0=>bif y0.1 then(some (true,())) else L155_3364 s0 s1 s5 (IntKind.wrap .i64 (s6+1))) else L155_211 s0 s1 s5):=(Ln_eq _ _ _).trans (by kernel_rfl)
theorem P155_211 (s0:List ByteArray) (s1:List ByteArray) (s5:Int):L155_211 s0 s1 s5=(L155_52 s0 s1 (IntKind.wrap .i64 (s5+1))):=(Ln_eq _ _ _).trans (by kernel_rfl)
noncomputable def L156_56 (s0:List ByteArray) (s1:ByteArray) (s5:Int):Option ((List ByteArray)×Unit):=Ln 116 56 (⟨47,[(0,.ok (.ro 9 s0)),(1,.ok (.v (.string s1))),(5,.ok (.v (.int .i64 s5)))],[]⟩,0)
noncomputable def L156_15 (s0:List ByteArray) (s1:ByteArray) (s5:Int):Option ((List ByteArray)×Unit):=Ln 116 15 (⟨47,[(0,.ok (.ro 9 s0)),(1,.ok (.v (.string s1))),(5,.ok (.v (.int .i64 s5)))],[]⟩,0)
theorem E156 (x0:List ByteArray) (x1:ByteArray):D156 x0 x1=(L156_56 x0 x1 0):=(Dn_eq _ _).trans (by kernel_rfl)
theorem P156_56 (s0:List ByteArray) (s1:ByteArray) (s5:Int):L156_56 s0 s1 s5=(gd (((decide (0≤s5))&&(decide (s5<(s0.length:Int))))||(!(decide (s5<(s0.length:Int))))) <| bif ((decide (s5<(s0.length:Int)))&&(ltB (nth s0 s5.toNat) s1)) then(L156_56 s0 s1 (IntKind.wrap .i64 (s5+1))) else L156_15 s0 s1 s5):=(Ln_eq _ _ _).trans (by kernel_rfl)
theorem P156_15 (s0:List ByteArray) (s1:ByteArray) (s5:Int):L156_15 s0 s1 s5=(gd (((decide (0≤s5))&&(decide (s5<(s0.length:Int))))||(!(decide (s5<(s0.length:Int))))) <| bif ((decide (s5<(s0.length:Int)))&&(decide ((nth s0 s5.toNat)=s1))) then(some (s0,())) else gd ((decide (0≤0))&&((decide (0≤s5))&&(decide (s5≤(s0.length:Int))))) <| gd ((decide (((0+(cutL s0 (0:Int).toNat s5.toNat).length)*16)≤140737488355328))&&(decide ((0+(cutL s0 (0:Int).toNat s5.toNat).length)≤9223372036854775807))) <| gd ((decide (((([]++(cutL s0 (0:Int).toNat s5.toNat)).length+1)*16)≤140737488355328))&&(decide ((([]++(cutL s0 (0:Int).toNat s5.toNat)).length+1)≤9223372036854775807))) <| gd ((decide (0≤s5))&&((decide (s5≤(s0.length:Int)))&&(decide ((s0.length:Int)≤(s0.length:Int))))) <| gd ((decide ((((([]++(cutL s0 (0:Int).toNat s5.toNat))++[s1]).length+(cutL s0 s5.toNat (s0.length:Int).toNat).length)*16)≤140737488355328))&&(decide (((([]++(cutL s0 (0:Int).toNat s5.toNat))++[s1]).length+(cutL s0 s5.toNat (s0.length:Int).toNat).length)≤9223372036854775807))) <| some (((([]++(cutL s0 (0:Int).toNat s5.toNat))++[s1])++(cutL s0 s5.toNat (s0.length:Int).toNat)),())):=(Ln_eq _ _ _).trans (by kernel_rfl)
noncomputable def L157_244 (s0:ByteArray) (s5:Int) (e0:List UInt8):Option (ByteArray×Bool×Unit):=Ln 118 244 (⟨33,[(0,.ok (.v (.string s0))),(4,.ok (.sl 0)),(5,.ok (.v (.int .i64 s5)))],[(0,.own 5 e0)]⟩,1)
noncomputable def L157_31 (e0:List UInt8):Option (ByteArray×Bool×Unit):=Ln 118 31 (⟨33,[(4,.ok (.sl 0))],[(0,.own 5 e0)]⟩,1)
theorem E157 (x0:ByteArray):D157 x0=(bif (decide ((x0.size:Int)>20000)) then(some ((tx []),(false,()))) else L157_244 x0 0 []):=(Dn_eq _ _).trans (by kernel_rfl)
theorem P157_244 (s0:ByteArray) (s5:Int) (e0:List UInt8):L157_244 s0 s5 e0=(bif (decide (s5<(s0.size:Int))) then(gd ((decide (0≤s5))&&(decide (s5<(s0.size:Int)))) <| gd (!(decide (16=0))) <| (D163 (IntKind.wrap .i64 (Int.tdiv (IntKind.wrap .i64 ((byteAt s0 s5.toNat).toNat:Int)) 16))).bind fun y0=>gd ((decide (0≤s5))&&(decide (s5<(s0.size:Int)))) <| gd (!(decide (16=0))) <| (D163 (Int.tmod (IntKind.wrap .i64 ((byteAt s0 s5.toNat).toNat:Int)) 16)).bind fun y1=>gd ((decide (((e0.length+2)*1)≤140737488355328))&&(decide ((e0.length+2)≤9223372036854775807))) <| L157_244 s0 (IntKind.wrap .i64 (s5+1)) (e0++[(u8of (y0.1.toNat:Int)),(u8of (y1.1.toNat:Int))])) else L157_31 e0):=(Ln_eq _ _ _).trans (by kernel_rfl)
theorem P157_31 (e0:List UInt8):L157_31 e0=(some ((bstr (e0.map fun x=>x)),(true,()))):=(Ln_eq _ _ _).trans (by kernel_rfl)
noncomputable def L158_116 (s0:ByteArray) (s3:Int) (s4:Int):Option (Int×Unit):=Ln 119 116 (⟨20,[(0,.ok (.v (.string s0))),(3,.ok (.v (.int .i64 s3))),(4,.ok (.v (.int .i64 s4)))],[]⟩,0)
noncomputable def L158_15 (s3:Int):Option (Int×Unit):=Ln 119 15 (⟨20,[(3,.ok (.v (.int .i64 s3)))],[]⟩,0)
theorem E158 (x0:ByteArray):D158 x0=(L158_116 x0 7 0):=(Dn_eq _ _).trans (by kernel_rfl)
theorem P158_116 (s0:ByteArray) (s3:Int) (s4:Int):L158_116 s0 s3 s4=(bif (decide (s4<(s0.size:Int))) then(gd ((decide (0≤s4))&&(decide (s4<(s0.size:Int)))) <| gd (!(decide (9973=0))) <| L158_116 s0 (Int.tmod (IntKind.wrap .i64 ((IntKind.wrap .i64 (31*s3))+(IntKind.wrap .i64 ((byteAt s0 s4.toNat).toNat:Int)))) 9973) (IntKind.wrap .i64 (s4+1))) else L158_15 s3):=(Ln_eq _ _ _).trans (by kernel_rfl)
theorem P158_15 (s3:Int):L158_15 s3=(some (s3,())):=(Ln_eq _ _ _).trans (by kernel_rfl)
noncomputable def L159_244 (s0:ByteArray) (s4:Int) (s5:Int):Option (Int×Bool×Unit):=Ln 320 244 (⟨42,[(0,.ok (.v (.string s0))),(4,.ok (.v (.int .i64 s4))),(5,.ok (.v (.int .i64 s5)))],[]⟩,0)
noncomputable def L159_31 (s0:ByteArray) (s4:Int):Option (Int×Bool×Unit):=Ln 320 31 (⟨42,[(0,.ok (.v (.string s0))),(4,.ok (.v (.int .i64 s4)))],[]⟩,0)
theorem E159 (x0:ByteArray):D159 x0=(bif (decide ((x0.size:Int)>10)) then(some (0,(false,()))) else L159_244 x0 0 0):=(Dn_eq _ _).trans (by kernel_rfl)
theorem P159_244 (s0:ByteArray) (s4:Int) (s5:Int):L159_244 s0 s4 s5=(bif (decide (s5<(s0.size:Int))) then(gd ((decide (0≤s5))&&(decide (s5<(s0.size:Int)))) <| gd (((decide (0≤s5))&&(decide (s5<(s0.size:Int))))||(!(!(decide (((byteAt s0 s5.toNat).toNat:Int)<48))))) <| bif ((decide (((byteAt s0 s5.toNat).toNat:Int)<48))||(decide (((byteAt s0 s5.toNat).toNat:Int)>57))) then(some (0,(false,()))) else gd ((decide (0≤s5))&&(decide (s5<(s0.size:Int)))) <| L159_244 s0 (IntKind.wrap .i64 ((IntKind.wrap .i64 ((IntKind.wrap .i64 (10*s4))+(IntKind.wrap .i64 ((byteAt s0 s5.toNat).toNat:Int)))) - 48)) (IntKind.wrap .i64 (s5+1))) else L159_31 s0 s4):=(Ln_eq _ _ _).trans (by kernel_rfl)
theorem P159_31 (s0:ByteArray) (s4:Int):L159_31 s0 s4=(bif (!(decide (s4>1000000000))) then((D122 s4).bind fun y0=>bif (!(decide (y0.1=s0))) then(some (0,(false,()))) else some (s4,(true,()))) else some (0,(false,()))):=(Ln_eq _ _ _).trans (by kernel_rfl)
theorem E160 (x0:UInt8):D160 x0=(bif ((decide ((x0.toNat:Int)≥48))&&(decide ((x0.toNat:Int)≤57))) then(some ((IntKind.wrap .i64 ((IntKind.wrap .i64 (x0.toNat:Int)) - 48)),())) else bif ((decide ((x0.toNat:Int)≥97))&&(decide ((x0.toNat:Int)≤102))) then(some ((IntKind.wrap .i64 ((IntKind.wrap .i64 ((IntKind.wrap .i64 (x0.toNat:Int)) - 97))+10)),())) else some ((-1),())):=(Dn_eq _ _).trans (by kernel_rfl)
noncomputable def L162_500 (s0:List Fw.Cell) (s1:ByteArray) (s2:ByteArray) (s8:Bool) (s9:Int) (e0:List Fw.Cell):Option ((List Fw.Cell)×Unit):=Ln 114 500 (⟨70,[(0,.ok (.ro 97 s0)),(1,.ok (.v (.string s1))),(2,.ok (.v (.string s2))),(7,.ok (.sl 0)),(8,.ok (.v (.bool s8))),(9,.ok (.v (.int .i64 s9)))],[(0,.own 97 e0)]⟩,1)
noncomputable def L162_63 (s1:ByteArray) (s2:ByteArray) (s8:Bool) (e0:List Fw.Cell):Option ((List Fw.Cell)×Unit):=Ln 114 63 (⟨70,[(1,.ok (.v (.string s1))),(2,.ok (.v (.string s2))),(7,.ok (.sl 0)),(8,.ok (.v (.bool s8)))],[(0,.own 97 e0)]⟩,1)
noncomputable def L162_8009 (s0:List Fw.Cell) (s1:ByteArray) (s2:ByteArray) (s8:Bool) (s9:Int) (e0:List Fw.Cell):Option ((List Fw.Cell)×Unit):=Ln 114 8009 (⟨70,[(0,.ok (.ro 97 s0)),(1,.ok (.v (.string s1))),(2,.ok (.v (.string s2))),(7,.ok (.sl 0)),(8,.ok (.v (.bool s8))),(9,.ok (.v (.int .i64 s9)))],[(0,.own 97 e0)]⟩,1)
noncomputable def L162_127 (e0:List Fw.Cell):Option ((List Fw.Cell)×Unit):=Ln 114 127 (⟨70,[(7,.ok (.sl 0))],[(0,.own 97 e0)]⟩,1)
noncomputable def L162_2003 (s0:List Fw.Cell) (s1:ByteArray) (s2:ByteArray) (s8:Bool) (s9:Int) (e0:List Fw.Cell):Option ((List Fw.Cell)×Unit):=Ln 114 2003 (⟨70,[(0,.ok (.ro 97 s0)),(1,.ok (.v (.string s1))),(2,.ok (.v (.string s2))),(7,.ok (.sl 0)),(8,.ok (.v (.bool s8))),(9,.ok (.v (.int .i64 s9)))],[(0,.own 97 e0)]⟩,1)
theorem E162 (x0:List Fw.Cell) (x1:ByteArray) (x2:ByteArray):D162 x0 x1 x2=((D132 x1).bind fun y0=>bif ((!y0.1)||(decide ((x2.size:Int)>60))) then(gd ((decide (((0+x0.length)*32)≤140737488355328))&&(decide ((0+x0.length)≤9223372036854775807))) <| some (([]++x0),())) else L162_500 x0 x1 x2 (decide (x2=(tx []))) 0 []):=(Dn_eq _ _).trans (by kernel_rfl)
theorem P162_500 (s0:List Fw.Cell) (s1:ByteArray) (s2:ByteArray) (s8:Bool) (s9:Int) (e0:List Fw.Cell):L162_500 s0 s1 s2 s8 s9 e0=(bif (decide (s9<(s0.length:Int))) then(gd (((decide (0≤s9))&&(decide (s9<(s0.length:Int))))||(!(!s8))) <| bif ((!s8)&&(!((ltB (nth s0 s9.toNat).Key s1)||(decide ((nth s0 s9.toNat).Key=s1))))) then(gd ((decide (((e0.length+1)*32)≤140737488355328))&&(decide ((e0.length+1)≤9223372036854775807))) <| L162_8009 s0 s1 s2 true s9 (e0++[(⟨s1,s2⟩:Fw.Cell)])) else L162_8009 s0 s1 s2 s8 s9 e0) else L162_63 s1 s2 s8 e0):=(Ln_eq _ _ _).trans (by kernel_rfl)
theorem P162_63 (s1:ByteArray) (s2:ByteArray) (s8:Bool) (e0:List Fw.Cell):L162_63 s1 s2 s8 e0=(bif (!s8) then(gd ((decide (((e0.length+1)*32)≤140737488355328))&&(decide ((e0.length+1)≤9223372036854775807))) <| L162_127 (e0++[(⟨s1,s2⟩:Fw.Cell)])) else L162_127 e0):=(Ln_eq _ _ _).trans (by kernel_rfl)
theorem P162_8009 (s0:List Fw.Cell) (s1:ByteArray) (s2:ByteArray) (s8:Bool) (s9:Int) (e0:List Fw.Cell):L162_8009 s0 s1 s2 s8 s9 e0=(gd ((decide (0≤s9))&&(decide (s9<(s0.length:Int)))) <| bif (!(decide ((nth s0 s9.toNat).Key=s1))) then(gd ((decide (0≤s9))&&(decide (s9<(s0.length:Int)))) <| gd ((decide (((e0.length+1)*32)≤140737488355328))&&(decide ((e0.length+1)≤9223372036854775807))) <| L162_2003 s0 s1 s2 s8 s9 (e0++[(nth s0 s9.toNat)])) else L162_2003 s0 s1 s2 s8 s9 e0):=(Ln_eq _ _ _).trans (by kernel_rfl)
theorem P162_127 (e0:List Fw.Cell):L162_127 e0=(some (e0,())):=(Ln_eq _ _ _).trans (by kernel_rfl)
theorem P162_2003 (s0:List Fw.Cell) (s1:ByteArray) (s2:ByteArray) (s8:Bool) (s9:Int) (e0:List Fw.Cell):L162_2003 s0 s1 s2 s8 s9 e0=(L162_500 s0 s1 s2 s8 (IntKind.wrap .i64 (s9+1)) e0):=(Ln_eq _ _ _).trans (by kernel_rfl)
theorem E163 (x0:Int):D163 x0=(bif (decide (x0<10)) then(some ((u8of (IntKind.wrap .u8 (IntKind.wrap .i64 (48+x0)))),())) else some ((u8of (IntKind.wrap .u8 (IntKind.wrap .i64 ((IntKind.wrap .i64 (97+x0)) - 10)))),())):=(Dn_eq _ _).trans (by kernel_rfl)
noncomputable def L164_116 (s1:List Fw.Cell) (s8:Int) (e0_0:List ByteArray) (e0_1:List ByteArray) (e1:List Fw.Cell):Option ((List Fw.Cell)×Unit):=Ln 70 116 (⟨34,[(1,.ok (.ro 97 s1)),(5,.ok (.pt 0 0)),(7,.ok (.sl 1)),(8,.ok (.v (.int .i64 s8)))],[(0,.var [.ro 9 e0_0,.ro 9 e0_1] 86),(1,.own 97 e1)]⟩,2)
noncomputable def L164_15 (e0:List Fw.Cell):Option ((List Fw.Cell)×Unit):=Ln 70 15 (⟨34,[(7,.ok (.sl 0))],[(0,.own 97 e0)]⟩,1)
theorem E164 (x0:List Fw.Cell) (x1:List Fw.Cell) (x2:Fw.Touch):D164 x0 x1 x2=(gd ((decide (((0+x0.length)*32)≤140737488355328))&&(decide ((0+x0.length)≤9223372036854775807))) <| L164_116 x1 0 x2.Reads x2.Writes ([]++x0)):=(Dn_eq _ _).trans (by kernel_rfl)
theorem P164_116 (s1:List Fw.Cell) (s8:Int) (e0_0:List ByteArray) (e0_1:List ByteArray) (e1:List Fw.Cell):L164_116 s1 s8 e0_0 e0_1 e1=(bif (decide (s8<(e0_1.length:Int))) then(gd ((decide (0≤s8))&&(decide (s8<(e0_1.length:Int)))) <| gd ((decide (0≤s8))&&(decide (s8<(e0_1.length:Int)))) <| (D104 s1 (nth e0_1 s8.toNat)).bind fun y0=>(D162 e1 (nth e0_1 s8.toNat) y0.1).bind fun y1=>L164_116 s1 (IntKind.wrap .i64 (s8+1)) e0_0 e0_1 y1.1) else L164_15 e1):=(Ln_eq _ _ _).trans (by kernel_rfl)
theorem P164_15 (e0:List Fw.Cell):L164_15 e0=(some (e0,())):=(Ln_eq _ _ _).trans (by kernel_rfl)
end Go.Proofs.YtapfpflmcgfbkaaGreatDoor.Ri

namespace Go.Proofs.YtapfpflmcgfbkaaGreatDoor.Ri
open Go.Proofs.YtapfpflmcgfbkaaGreatDoor.Fw
open Go.RowKit
set_option linter.unusedVariables false
set_option maxRecDepth 100000
noncomputable def L165_52 (s0:ByteArray) (s3:Int):Option (Bool×Unit):=Ln 251 52 (⟨35,[(0,.ok (.v (.string s0))),(3,.ok (.v (.int .i64 s3)))],[]⟩,0)
noncomputable def L165_7 (s0:ByteArray):Option (Bool×Unit):=Ln 251 7 (⟨35,[(0,.ok (.v (.string s0)))],[]⟩,0)
theorem E165 (x0:ByteArray):D165 x0=(L165_52 x0 0):=(Dn_eq _ _).trans (by kernel_rfl)
theorem P165_52 (s0:ByteArray) (s3:Int):L165_52 s0 s3=(bif (decide (s3<(s0.size:Int))) then(gd ((decide (0≤s3))&&(decide (s3<(s0.size:Int)))) <| (D27 (IntKind.wrap .i64 ((byteAt s0 s3.toNat).toNat:Int)) 97 122).bind fun y0=>bif (!y0.1) then((D27 (IntKind.wrap .i64 ((byteAt s0 s3.toNat).toNat:Int)) 48 57).bind fun y1=>bif (((!y1.1)&&(!(decide (((byteAt s0 s3.toNat).toNat:Int)=46))))&&(!(decide (((byteAt s0 s3.toNat).toNat:Int)=45)))) then(some (false,())) else L165_52 s0 (IntKind.wrap .i64 (s3+1))) else L165_52 s0 (IntKind.wrap .i64 (s3+1))) else L165_7 s0):=(Ln_eq _ _ _).trans (by kernel_rfl)
theorem P165_7 (s0:ByteArray):L165_7 s0=((D27 (s0.size:Int) 1 12).bind fun y0=>some (y0.1,())):=(Ln_eq _ _ _).trans (by kernel_rfl)
theorem E166 (x0:Fw.Mach) (x1:ByteArray):D166 x0 x1=((D165 x1).bind fun y0=>bif (!y0.1) then(some (x0,(0,()))) else gd (decide (((tx [110,47]).size+x1.size)≤9223372036854775807)) <| (D88 x0 ((tx [110,47])++x1)).bind fun y1=>some (y1.1,(y1.2.1,()))):=(Dn_eq _ _).trans (by kernel_rfl)
noncomputable def L167_116 (s6:Int) (e1:List Fw.Cell) (e2:List ByteArray) (e3:List ByteArray) (e5:List ByteArray):Option (Fw.Mach×Unit):=Ln 257 116 (⟨26,[(2,.ok (.pt 0 0)),(4,.ok (.pt 4 0)),(5,.ok (.sl 5)),(6,.ok (.v (.int .i64 s6)))],[(0,.var [.sl 1,.sl 2,.sl 3] 219),(1,.own 97 e1),(2,.own 9 e2),(3,.own 9 e3),(4,.var [.v (.slice none 0 0),.v (.slice none 0 0),.v (.slice none 0 0)] 219),(5,.own 9 e5)]⟩,6)
noncomputable def L167_15 (e1:List Fw.Cell) (e2:List ByteArray) (e3:List ByteArray):Option (Fw.Mach×Unit):=Ln 257 15 (⟨26,[(2,.ok (.pt 0 0)),(4,.ok (.pt 4 0))],[(0,.var [.sl 1,.sl 2,.sl 3] 219),(1,.own 97 e1),(2,.own 9 e2),(3,.own 9 e3),(4,.var [.v (.slice none 0 0),.v (.slice none 0 0),.v (.slice none 0 0)] 219)]⟩,5)
theorem E167 (x0:Fw.Mach) (x1:ByteArray):D167 x0 x1=((D177 x0 x1).bind fun y0=>L167_116 0 y0.1.Store y0.1.Touch.Reads y0.1.Touch.Writes y0.2.1):=(Dn_eq _ _).trans (by kernel_rfl)
theorem P167_116 (s6:Int) (e1:List Fw.Cell) (e2:List ByteArray) (e3:List ByteArray) (e5:List ByteArray):L167_116 s6 e1 e2 e3 e5=(bif (decide (s6<(e5.length:Int))) then(gd ((decide (0≤s6))&&(decide (s6<(e5.length:Int)))) <| (D131 (⟨e1,(⟨e2,e3⟩:Fw.Touch)⟩:Fw.Mach) (nth e5 s6.toNat) (tx [])).bind fun y0=>L167_116 (IntKind.wrap .i64 (s6+1)) y0.1.Store y0.1.Touch.Reads y0.1.Touch.Writes e5) else L167_15 e1 e2 e3):=(Ln_eq _ _ _).trans (by kernel_rfl)
theorem P167_15 (e1:List Fw.Cell) (e2:List ByteArray) (e3:List ByteArray):L167_15 e1 e2 e3=(some ((⟨e1,(⟨e2,e3⟩:Fw.Touch)⟩:Fw.Mach),())):=(Ln_eq _ _ _).trans (by kernel_rfl)
noncomputable def L168_244 (s6:Int) (e1:List Fw.Cell) (e2:List ByteArray) (e3:List ByteArray) (e5:List ByteArray) (e6:List ByteArray):Option (Fw.Mach×(List ByteArray)×Unit):=Ln 258 244 (⟨29,[(1,.ok (.pt 0 0)),(2,.ok (.pt 4 0)),(4,.ok (.sl 5)),(5,.ok (.sl 6)),(6,.ok (.v (.int .i64 s6)))],[(0,.var [.sl 1,.sl 2,.sl 3] 219),(1,.own 97 e1),(2,.own 9 e2),(3,.own 9 e3),(4,.var [.v (.slice none 0 0),.v (.slice none 0 0),.v (.slice none 0 0)] 219),(5,.own 9 e5),(6,.own 9 e6)]⟩,7)
noncomputable def L168_31 (e1:List Fw.Cell) (e2:List ByteArray) (e3:List ByteArray) (e5:List ByteArray):Option (Fw.Mach×(List ByteArray)×Unit):=Ln 258 31 (⟨29,[(1,.ok (.pt 0 0)),(2,.ok (.pt 4 0)),(5,.ok (.sl 5))],[(0,.var [.sl 1,.sl 2,.sl 3] 219),(1,.own 97 e1),(2,.own 9 e2),(3,.own 9 e3),(4,.var [.v (.slice none 0 0),.v (.slice none 0 0),.v (.slice none 0 0)] 219),(5,.own 9 e5)]⟩,6)
theorem E168 (x0:Fw.Mach):D168 x0=((D177 x0 (tx [110,47])).bind fun y0=>L168_244 0 y0.1.Store y0.1.Touch.Reads y0.1.Touch.Writes y0.2.1 []):=(Dn_eq _ _).trans (by kernel_rfl)
theorem P168_244 (s6:Int) (e1:List Fw.Cell) (e2:List ByteArray) (e3:List ByteArray) (e5:List ByteArray) (e6:List ByteArray):L168_244 s6 e1 e2 e3 e5 e6=(bif (decide (s6<(e5.length:Int))) then(gd ((decide (0≤s6))&&(decide (s6<(e5.length:Int)))) <| gd ((decide (0≤2))&&((decide (2≤((nth e5 s6.toNat).size:Int)))&&(decide (((nth e5 s6.toNat).size:Int)≤((nth e5 s6.toNat).size:Int))))) <| gd ((decide (((e6.length+1)*16)≤140737488355328))&&(decide ((e6.length+1)≤9223372036854775807))) <| L168_244 (IntKind.wrap .i64 (s6+1)) e1 e2 e3 e5 (e6++[(cutS (nth e5 s6.toNat) (2:Int).toNat ((nth e5 s6.toNat).size:Int).toNat)])) else L168_31 e1 e2 e3 e6):=(Ln_eq _ _ _).trans (by kernel_rfl)
theorem P168_31 (e1:List Fw.Cell) (e2:List ByteArray) (e3:List ByteArray) (e5:List ByteArray):L168_31 e1 e2 e3 e5=(some ((⟨e1,(⟨e2,e3⟩:Fw.Touch)⟩:Fw.Mach),(e5,()))):=(Ln_eq _ _ _).trans (by kernel_rfl)
noncomputable def L169_63 (s1:Int) (s2:Int) (s11:Int) (e1:List Fw.Cell) (e2:List ByteArray) (e3:List ByteArray):Option (Fw.Mach×ByteArray×Unit):=Ln 259 63 (⟨91,[(1,.ok (.v (.int .i64 s1))),(2,.ok (.v (.int .i64 s2))),(4,.ok (.pt 0 0)),(8,.ok (.pt 4 0)),(11,.ok (.v (.int .i64 s11)))],[(0,.var [.sl 1,.sl 2,.sl 3] 219),(1,.own 97 e1),(2,.own 9 e2),(3,.own 9 e3),(4,.var [.v (.slice none 0 0),.v (.slice none 0 0),.v (.slice none 0 0)] 219)]⟩,5)
noncomputable def L169_2036 (s1:Int) (s2:Int) (s11:Int) (s13:Int) (e1:List Fw.Cell) (e2:List ByteArray) (e3:List ByteArray) (e5:List UInt8):Option (Fw.Mach×ByteArray×Unit):=Ln 259 2036 (⟨91,[(1,.ok (.v (.int .i64 s1))),(2,.ok (.v (.int .i64 s2))),(4,.ok (.pt 0 0)),(8,.ok (.pt 4 0)),(11,.ok (.v (.int .i64 s11))),(12,.ok (.sl 5)),(13,.ok (.v (.int .i64 s13)))],[(0,.var [.sl 1,.sl 2,.sl 3] 219),(1,.own 97 e1),(2,.own 9 e2),(3,.own 9 e3),(4,.var [.v (.slice none 0 0),.v (.slice none 0 0),.v (.slice none 0 0)] 219),(5,.own 5 e5)]⟩,6)
noncomputable def L169_255 (e1:List Fw.Cell) (e2:List ByteArray) (e3:List ByteArray) (e5:List UInt8):Option (Fw.Mach×ByteArray×Unit):=Ln 259 255 (⟨91,[(4,.ok (.pt 0 0)),(8,.ok (.pt 4 0)),(12,.ok (.sl 5))],[(0,.var [.sl 1,.sl 2,.sl 3] 219),(1,.own 97 e1),(2,.own 9 e2),(3,.own 9 e3),(4,.var [.v (.slice none 0 0),.v (.slice none 0 0),.v (.slice none 0 0)] 219),(5,.own 5 e5)]⟩,6)
noncomputable def L169_521372 (s1:Int) (s2:Int) (s11:Int) (s13:Int) (s14:ByteArray) (s15:Int) (e1:List Fw.Cell) (e2:List ByteArray) (e3:List ByteArray) (e5:List UInt8):Option (Fw.Mach×ByteArray×Unit):=Ln 259 521372 (⟨91,[(1,.ok (.v (.int .i64 s1))),(2,.ok (.v (.int .i64 s2))),(4,.ok (.pt 0 0)),(8,.ok (.pt 4 0)),(11,.ok (.v (.int .i64 s11))),(12,.ok (.sl 5)),(13,.ok (.v (.int .i64 s13))),(14,.ok (.v (.string s14))),(15,.ok (.v (.int .i64 s15)))],[(0,.var [.sl 1,.sl 2,.sl 3] 219),(1,.own 97 e1),(2,.own 9 e2),(3,.own 9 e3),(4,.var [.v (.slice none 0 0),.v (.slice none 0 0),.v (.slice none 0 0)] 219),(5,.own 5 e5)]⟩,6)
noncomputable def L169_8147 (s1:Int) (s2:Int) (s11:Int) (s13:Int) (e1:List Fw.Cell) (e2:List ByteArray) (e3:List ByteArray) (e5:List UInt8):Option (Fw.Mach×ByteArray×Unit):=Ln 259 8147 (⟨91,[(1,.ok (.v (.int .i64 s1))),(2,.ok (.v (.int .i64 s2))),(4,.ok (.pt 0 0)),(8,.ok (.pt 4 0)),(11,.ok (.v (.int .i64 s11))),(12,.ok (.sl 5)),(13,.ok (.v (.int .i64 s13)))],[(0,.var [.sl 1,.sl 2,.sl 3] 219),(1,.own 97 e1),(2,.own 9 e2),(3,.own 9 e3),(4,.var [.v (.slice none 0 0),.v (.slice none 0 0),.v (.slice none 0 0)] 219),(5,.own 5 e5)]⟩,6)
noncomputable def L169_2085491 (s1:Int) (s2:Int) (s11:Int) (s13:Int) (s14:ByteArray) (s15:Int) (e1:List Fw.Cell) (e2:List ByteArray) (e3:List ByteArray) (e5:List UInt8):Option (Fw.Mach×ByteArray×Unit):=Ln 259 2085491 (⟨91,[(1,.ok (.v (.int .i64 s1))),(2,.ok (.v (.int .i64 s2))),(4,.ok (.pt 0 0)),(8,.ok (.pt 4 0)),(11,.ok (.v (.int .i64 s11))),(12,.ok (.sl 5)),(13,.ok (.v (.int .i64 s13))),(14,.ok (.v (.string s14))),(15,.ok (.v (.int .i64 s15)))],[(0,.var [.sl 1,.sl 2,.sl 3] 219),(1,.own 97 e1),(2,.own 9 e2),(3,.own 9 e3),(4,.var [.v (.slice none 0 0),.v (.slice none 0 0),.v (.slice none 0 0)] 219),(5,.own 5 e5)]⟩,6)
theorem E169 (x0:Fw.Mach) (x1:Int) (x2:Int) (x3:Int):D169 x0 x1 x2 x3=((D185 x0 x1).bind fun y0=>bif (((decide (x2<0))||(decide (x3<1)))||(decide (x2≥y0.2.1))) then(some (y0.1,((tx []),()))) else bif (decide (x3<(IntKind.wrap .i64 (y0.2.1 - x2)))) then(L169_63 x1 x2 (IntKind.wrap .i64 (x2+x3)) y0.1.Store y0.1.Touch.Reads y0.1.Touch.Writes) else L169_63 x1 x2 y0.2.1 y0.1.Store y0.1.Touch.Reads y0.1.Touch.Writes):=(Dn_eq _ _).trans (by kernel_rfl)
theorem P169_63 (s1:Int) (s2:Int) (s11:Int) (e1:List Fw.Cell) (e2:List ByteArray) (e3:List ByteArray):L169_63 s1 s2 s11 e1 e2 e3=(gd (!(decide (8=0))) <| L169_2036 s1 s2 s11 (IntKind.wrap .i64 (Int.tdiv s2 8)) e1 e2 e3 []):=(Ln_eq _ _ _).trans (by kernel_rfl)
theorem P169_2036 (s1:Int) (s2:Int) (s11:Int) (s13:Int) (e1:List Fw.Cell) (e2:List ByteArray) (e3:List ByteArray) (e5:List UInt8):L169_2036 s1 s2 s11 s13 e1 e2 e3 e5=(bif (decide ((IntKind.wrap .i64 (s13*8))<s11)) then((D186 (⟨e1,(⟨e2,e3⟩:Fw.Touch)⟩:Fw.Mach) s1 s13).bind fun y0=>L169_521372 s1 s2 s11 s13 y0.2.1 0 y0.1.Store y0.1.Touch.Reads y0.1.Touch.Writes e5) else L169_255 e1 e2 e3 e5):=(Ln_eq _ _ _).trans (by kernel_rfl)
theorem P169_255 (e1:List Fw.Cell) (e2:List ByteArray) (e3:List ByteArray) (e5:List UInt8):L169_255 e1 e2 e3 e5=(some ((⟨e1,(⟨e2,e3⟩:Fw.Touch)⟩:Fw.Mach),((bstr (e5.map fun x=>x)),()))):=(Ln_eq _ _ _).trans (by kernel_rfl)
theorem P169_521372 (s1:Int) (s2:Int) (s11:Int) (s13:Int) (s14:ByteArray) (s15:Int) (e1:List Fw.Cell) (e2:List ByteArray) (e3:List ByteArray) (e5:List UInt8):L169_521372 s1 s2 s11 s13 s14 s15 e1 e2 e3 e5=(bif ((decide (s15<(s14.size:Int)))&&(decide (s15<8))) then(bif ((decide ((IntKind.wrap .i64 ((IntKind.wrap .i64 (s13*8))+s15))≥s2))&&(decide ((IntKind.wrap .i64 ((IntKind.wrap .i64 (s13*8))+s15))<s11))) then(gd ((decide (0≤s15))&&(decide (s15<(s14.size:Int)))) <| gd ((decide (((e5.length+1)*1)≤140737488355328))&&(decide ((e5.length+1)≤9223372036854775807))) <| L169_2085491 s1 s2 s11 s13 s14 s15 e1 e2 e3 (e5++[(u8of ((byteAt s14 s15.toNat).toNat:Int))])) else L169_2085491 s1 s2 s11 s13 s14 s15 e1 e2 e3 e5) else L169_8147 s1 s2 s11 s13 e1 e2 e3 e5):=(Ln_eq _ _ _).trans (by kernel_rfl)
theorem P169_8147 (s1:Int) (s2:Int) (s11:Int) (s13:Int) (e1:List Fw.Cell) (e2:List ByteArray) (e3:List ByteArray) (e5:List UInt8):L169_8147 s1 s2 s11 s13 e1 e2 e3 e5=(L169_2036 s1 s2 s11 (IntKind.wrap .i64 (s13+1)) e1 e2 e3 e5):=(Ln_eq _ _ _).trans (by kernel_rfl)
theorem P169_2085491 (s1:Int) (s2:Int) (s11:Int) (s13:Int) (s14:ByteArray) (s15:Int) (e1:List Fw.Cell) (e2:List ByteArray) (e3:List ByteArray) (e5:List UInt8):L169_2085491 s1 s2 s11 s13 s14 s15 e1 e2 e3 e5=(L169_521372 s1 s2 s11 s13 s14 (IntKind.wrap .i64 (s15+1)) e1 e2 e3 e5):=(Ln_eq _ _ _).trans (by kernel_rfl)
noncomputable def L170_1012 (s1:Int) (s2:Int) (s3:ByteArray) (s10:Int) (s11:Int) (s12:Int) (e1:List Fw.Cell) (e2:List ByteArray) (e3:List ByteArray):Option (Fw.Mach×Int×Unit):=Ln 260 1012 (⟨102,[(1,.ok (.v (.int .i64 s1))),(2,.ok (.v (.int .i64 s2))),(3,.ok (.v (.string s3))),(4,.ok (.pt 0 0)),(8,.ok (.pt 4 0)),(10,.ok (.v (.int .i64 s10))),(11,.ok (.v (.int .i64 s11))),(12,.ok (.v (.int .i64 s12)))],[(0,.var [.sl 1,.sl 2,.sl 3] 219),(1,.own 97 e1),(2,.own 9 e2),(3,.own 9 e3),(4,.var [.v (.slice none 0 0),.v (.slice none 0 0),.v (.slice none 0 0)] 219)]⟩,5)
noncomputable def L170_127 (s1:Int) (s10:Int) (s11:Int) (e1:List Fw.Cell) (e2:List ByteArray) (e3:List ByteArray):Option (Fw.Mach×Int×Unit):=Ln 260 127 (⟨102,[(1,.ok (.v (.int .i64 s1))),(4,.ok (.pt 0 0)),(8,.ok (.pt 4 0)),(10,.ok (.v (.int .i64 s10))),(11,.ok (.v (.int .i64 s11)))],[(0,.var [.sl 1,.sl 2,.sl 3] 219),(1,.own 97 e1),(2,.own 9 e2),(3,.own 9 e3),(4,.var [.v (.slice none 0 0),.v (.slice none 0 0),.v (.slice none 0 0)] 219)]⟩,5)
noncomputable def L170_1036916 (s1:Int) (s2:Int) (s3:ByteArray) (s10:Int) (s11:Int) (s12:Int) (s15:Int) (e1:List Fw.Cell) (e2:List ByteArray) (e3:List ByteArray) (e5:List UInt8):Option (Fw.Mach×Int×Unit):=Ln 260 1036916 (⟨102,[(1,.ok (.v (.int .i64 s1))),(2,.ok (.v (.int .i64 s2))),(3,.ok (.v (.string s3))),(4,.ok (.pt 0 0)),(8,.ok (.pt 4 0)),(10,.ok (.v (.int .i64 s10))),(11,.ok (.v (.int .i64 s11))),(12,.ok (.v (.int .i64 s12))),(14,.ok (.sl 5)),(15,.ok (.v (.int .i64 s15)))],[(0,.var [.sl 1,.sl 2,.sl 3] 219),(1,.own 97 e1),(2,.own 9 e2),(3,.own 9 e3),(4,.var [.v (.slice none 0 0),.v (.slice none 0 0),.v (.slice none 0 0)] 219),(5,.own 5 e5)]⟩,6)
noncomputable def L170_255 (e1:List Fw.Cell) (e2:List ByteArray) (e3:List ByteArray):Option (Fw.Mach×Int×Unit):=Ln 260 255 (⟨102,[(4,.ok (.pt 0 0)),(8,.ok (.pt 4 0))],[(0,.var [.sl 1,.sl 2,.sl 3] 219),(1,.own 97 e1),(2,.own 9 e2),(3,.own 9 e3),(4,.var [.v (.slice none 0 0),.v (.slice none 0 0),.v (.slice none 0 0)] 219)]⟩,5)
noncomputable def L170_129615 (s1:Int) (s2:Int) (s3:ByteArray) (s10:Int) (s11:Int) (s12:Int) (e1:List Fw.Cell) (e2:List ByteArray) (e3:List ByteArray) (e5:List UInt8):Option (Fw.Mach×Int×Unit):=Ln 260 129615 (⟨102,[(1,.ok (.v (.int .i64 s1))),(2,.ok (.v (.int .i64 s2))),(3,.ok (.v (.string s3))),(4,.ok (.pt 0 0)),(8,.ok (.pt 4 0)),(10,.ok (.v (.int .i64 s10))),(11,.ok (.v (.int .i64 s11))),(12,.ok (.v (.int .i64 s12))),(14,.ok (.sl 5))],[(0,.var [.sl 1,.sl 2,.sl 3] 219),(1,.own 97 e1),(2,.own 9 e2),(3,.own 9 e3),(4,.var [.v (.slice none 0 0),.v (.slice none 0 0),.v (.slice none 0 0)] 219),(5,.own 5 e5)]⟩,6)
noncomputable def L170_265450648 (s1:Int) (s2:Int) (s3:ByteArray) (s10:Int) (s11:Int) (s12:Int) (s15:Int) (s16:Int) (e1:List Fw.Cell) (e2:List ByteArray) (e3:List ByteArray) (e5:List UInt8):Option (Fw.Mach×Int×Unit):=Ln 260 265450648 (⟨102,[(1,.ok (.v (.int .i64 s1))),(2,.ok (.v (.int .i64 s2))),(3,.ok (.v (.string s3))),(4,.ok (.pt 0 0)),(8,.ok (.pt 4 0)),(10,.ok (.v (.int .i64 s10))),(11,.ok (.v (.int .i64 s11))),(12,.ok (.v (.int .i64 s12))),(14,.ok (.sl 5)),(15,.ok (.v (.int .i64 s15))),(16,.ok (.v (.int .i64 s16)))],[(0,.var [.sl 1,.sl 2,.sl 3] 219),(1,.own 97 e1),(2,.own 9 e2),(3,.own 9 e3),(4,.var [.v (.slice none 0 0),.v (.slice none 0 0),.v (.slice none 0 0)] 219),(5,.own 5 e5)]⟩,6)
noncomputable def L170_4147667 (s1:Int) (s2:Int) (s3:ByteArray) (s10:Int) (s11:Int) (s12:Int) (s15:Int) (e1:List Fw.Cell) (e2:List ByteArray) (e3:List ByteArray) (e5:List UInt8):Option (Fw.Mach×Int×Unit):=Ln 260 4147667 (⟨102,[(1,.ok (.v (.int .i64 s1))),(2,.ok (.v (.int .i64 s2))),(3,.ok (.v (.string s3))),(4,.ok (.pt 0 0)),(8,.ok (.pt 4 0)),(10,.ok (.v (.int .i64 s10))),(11,.ok (.v (.int .i64 s11))),(12,.ok (.v (.int .i64 s12))),(14,.ok (.sl 5)),(15,.ok (.v (.int .i64 s15)))],[(0,.var [.sl 1,.sl 2,.sl 3] 219),(1,.own 97 e1),(2,.own 9 e2),(3,.own 9 e3),(4,.var [.v (.slice none 0 0),.v (.slice none 0 0),.v (.slice none 0 0)] 219),(5,.own 5 e5)]⟩,6)
noncomputable def L170_4051 (s1:Int) (s2:Int) (s3:ByteArray) (s10:Int) (s11:Int) (s12:Int) (e1:List Fw.Cell) (e2:List ByteArray) (e3:List ByteArray):Option (Fw.Mach×Int×Unit):=Ln 260 4051 (⟨102,[(1,.ok (.v (.int .i64 s1))),(2,.ok (.v (.int .i64 s2))),(3,.ok (.v (.string s3))),(4,.ok (.pt 0 0)),(8,.ok (.pt 4 0)),(10,.ok (.v (.int .i64 s10))),(11,.ok (.v (.int .i64 s11))),(12,.ok (.v (.int .i64 s12)))],[(0,.var [.sl 1,.sl 2,.sl 3] 219),(1,.own 97 e1),(2,.own 9 e2),(3,.own 9 e3),(4,.var [.v (.slice none 0 0),.v (.slice none 0 0),.v (.slice none 0 0)] 219)]⟩,5)
noncomputable def L170_66362663 (s1:Int) (s2:Int) (s3:ByteArray) (s10:Int) (s11:Int) (s12:Int) (s15:Int) (s16:Int) (e1:List Fw.Cell) (e2:List ByteArray) (e3:List ByteArray) (e5:List UInt8):Option (Fw.Mach×Int×Unit):=Ln 260 66362663 (⟨102,[(1,.ok (.v (.int .i64 s1))),(2,.ok (.v (.int .i64 s2))),(3,.ok (.v (.string s3))),(4,.ok (.pt 0 0)),(8,.ok (.pt 4 0)),(10,.ok (.v (.int .i64 s10))),(11,.ok (.v (.int .i64 s11))),(12,.ok (.v (.int .i64 s12))),(14,.ok (.sl 5)),(15,.ok (.v (.int .i64 s15))),(16,.ok (.v (.int .i64 s16)))],[(0,.var [.sl 1,.sl 2,.sl 3] 219),(1,.own 97 e1),(2,.own 9 e2),(3,.own 9 e3),(4,.var [.v (.slice none 0 0),.v (.slice none 0 0),.v (.slice none 0 0)] 219),(5,.own 5 e5)]⟩,6)
theorem E170 (x0:Fw.Mach) (x1:Int) (x2:Int) (x3:ByteArray):D170 x0 x1 x2 x3=((D185 x0 x1).bind fun y0=>(D27 x2 0 y0.2.1).bind fun y1=>bif ((!y1.1)||(decide (x3=(tx [])))) then(some (y0.1,(4,()))) else bif (decide ((IntKind.wrap .i64 (x2+(x3.size:Int)))>64)) then(some (y0.1,(3,()))) else gd (!(decide (8=0))) <| L170_1012 x1 x2 x3 y0.2.1 (IntKind.wrap .i64 (x2+(x3.size:Int))) (IntKind.wrap .i64 (Int.tdiv x2 8)) y0.1.Store y0.1.Touch.Reads y0.1.Touch.Writes):=(Dn_eq _ _).trans (by kernel_rfl)
theorem P170_1012 (s1:Int) (s2:Int) (s3:ByteArray) (s10:Int) (s11:Int) (s12:Int) (e1:List Fw.Cell) (e2:List ByteArray) (e3:List ByteArray):L170_1012 s1 s2 s3 s10 s11 s12 e1 e2 e3=(bif (decide ((IntKind.wrap .i64 (s12*8))<s11)) then((D186 (⟨e1,(⟨e2,e3⟩:Fw.Touch)⟩:Fw.Mach) s1 s12).bind fun y0=>L170_1036916 s1 s2 s3 s10 s11 s12 0 y0.1.Store y0.1.Touch.Reads y0.1.Touch.Writes ((sbytes y0.2.1).map fun x=>x)) else L170_127 s1 s10 s11 e1 e2 e3):=(Ln_eq _ _ _).trans (by kernel_rfl)
theorem P170_127 (s1:Int) (s10:Int) (s11:Int) (e1:List Fw.Cell) (e2:List ByteArray) (e3:List ByteArray):L170_127 s1 s10 s11 e1 e2 e3=(bif (decide (s11>s10)) then((D112 (tx [105,47]) s1 (tx [47,115])).bind fun y0=>(D90 (⟨e1,(⟨e2,e3⟩:Fw.Touch)⟩:Fw.Mach) y0.1 s11).bind fun y1=>L170_255 y1.1.Store y1.1.Touch.Reads y1.1.Touch.Writes) else L170_255 e1 e2 e3):=(Ln_eq _ _ _).trans (by kernel_rfl)
theorem P170_1036916 (s1:Int) (s2:Int) (s3:ByteArray) (s10:Int) (s11:Int) (s12:Int) (s15:Int) (e1:List Fw.Cell) (e2:List ByteArray) (e3:List ByteArray) (e5:List UInt8):L170_1036916 s1 s2 s3 s10 s11 s12 s15 e1 e2 e3 e5=(bif (decide (s15<8)) then(bif ((decide ((IntKind.wrap .i64 ((IntKind.wrap .i64 (s12*8))+s15))<s2))||(decide ((IntKind.wrap .i64 ((IntKind.wrap .i64 (s12*8))+s15))≥s11))) then(L170_4147667 s1 s2 s3 s10 s11 s12 s15 e1 e2 e3 e5) else L170_265450648 s1 s2 s3 s10 s11 s12 s15 (IntKind.wrap .i64 ((IntKind.wrap .i64 (s12*8))+s15)) e1 e2 e3 e5) else L170_129615 s1 s2 s3 s10 s11 s12 e1 e2 e3 e5):=(Ln_eq _ _ _).trans (by kernel_rfl)
theorem P170_255 (e1:List Fw.Cell) (e2:List ByteArray) (e3:List ByteArray):L170_255 e1 e2 e3=(some ((⟨e1,(⟨e2,e3⟩:Fw.Touch)⟩:Fw.Mach),(0,()))):=(Ln_eq _ _ _).trans (by kernel_rfl)
theorem P170_129615 (s1:Int) (s2:Int) (s3:ByteArray) (s10:Int) (s11:Int) (s12:Int) (e1:List Fw.Cell) (e2:List ByteArray) (e3:List ByteArray) (e5:List UInt8):L170_129615 s1 s2 s3 s10 s11 s12 e1 e2 e3 e5=((D187 (⟨e1,(⟨e2,e3⟩:Fw.Touch)⟩:Fw.Mach) s1 s12 (bstr (e5.map fun x=>x))).bind fun y0=>L170_4051 s1 s2 s3 s10 s11 s12 y0.1.Store y0.1.Touch.Reads y0.1.Touch.Writes):=(Ln_eq _ _ _).trans (by kernel_rfl)
theorem P170_265450648 (s1:Int) (s2:Int) (s3:ByteArray) (s10:Int) (s11:Int) (s12:Int) (s15:Int) (s16:Int) (e1:List Fw.Cell) (e2:List ByteArray) (e3:List ByteArray) (e5:List UInt8):L170_265450648 s1 s2 s3 s10 s11 s12 s15 s16 e1 e2 e3 e5=(bif (decide ((e5.length:Int)≤s15)) then(gd ((decide (((e5.length+1)*1)≤140737488355328))&&(decide ((e5.length+1)≤9223372036854775807))) <| L170_265450648 s1 s2 s3 s10 s11 s12 s15 s16 e1 e2 e3 (e5++[(u8of 0)])) else L170_66362663 s1 s2 s3 s10 s11 s12 s15 s16 e1 e2 e3 e5):=(Ln_eq _ _ _).trans (by kernel_rfl)
theorem P170_4147667 (s1:Int) (s2:Int) (s3:ByteArray) (s10:Int) (s11:Int) (s12:Int) (s15:Int) (e1:List Fw.Cell) (e2:List ByteArray) (e3:List ByteArray) (e5:List UInt8):L170_4147667 s1 s2 s3 s10 s11 s12 s15 e1 e2 e3 e5=(L170_1036916 s1 s2 s3 s10 s11 s12 (IntKind.wrap .i64 (s15+1)) e1 e2 e3 e5):=(Ln_eq _ _ _).trans (by kernel_rfl)
theorem P170_4051 (s1:Int) (s2:Int) (s3:ByteArray) (s10:Int) (s11:Int) (s12:Int) (e1:List Fw.Cell) (e2:List ByteArray) (e3:List ByteArray):L170_4051 s1 s2 s3 s10 s11 s12 e1 e2 e3=(L170_1012 s1 s2 s3 s10 s11 (IntKind.wrap .i64 (s12+1)) e1 e2 e3):=(Ln_eq _ _ _).trans (by kernel_rfl)
theorem P170_66362663 (s1:Int) (s2:Int) (s3:ByteArray) (s10:Int) (s11:Int) (s12:Int) (s15:Int) (s16:Int) (e1:List Fw.Cell) (e2:List ByteArray) (e3:List ByteArray) (e5:List UInt8):L170_66362663 s1 s2 s3 s10 s11 s12 s15 s16 e1 e2 e3 e5=(gd ((decide (0≤(IntKind.wrap .i64 (s16 - s2))))&&(decide ((IntKind.wrap .i64 (s16 - s2))<(s3.size:Int)))) <| gd ((decide (0≤s15))&&(decide (s15<(e5.length:Int)))) <| L170_4147667 s1 s2 s3 s10 s11 s12 s15 e1 e2 e3 (e5.set s15.toNat (u8of ((byteAt s3 (IntKind.wrap .i64 (s16 - s2)).toNat).toNat:Int)))):=(Ln_eq _ _ _).trans (by kernel_rfl)
end Go.Proofs.YtapfpflmcgfbkaaGreatDoor.Ri

namespace Go.Proofs.YtapfpflmcgfbkaaGreatDoor.Ri
open Go.Proofs.YtapfpflmcgfbkaaGreatDoor.Fw
open Go.RowKit
set_option linter.unusedVariables false
set_option maxRecDepth 100000
noncomputable def L171_63 (s1:Int) (s2:Int) (s8:Int) (s9:Int) (e1:List Fw.Cell) (e2:List ByteArray) (e3:List ByteArray):Option (Fw.Mach×Int×Unit):=Ln 261 63 (⟨63,[(1,.ok (.v (.int .i64 s1))),(2,.ok (.v (.int .i64 s2))),(3,.ok (.pt 0 0)),(6,.ok (.pt 4 0)),(8,.ok (.v (.int .i64 s8))),(9,.ok (.v (.int .i64 s9)))],[(0,.var [.sl 1,.sl 2,.sl 3] 219),(1,.own 97 e1),(2,.own 9 e2),(3,.own 9 e3),(4,.var [.v (.slice none 0 0),.v (.slice none 0 0),.v (.slice none 0 0)] 219)]⟩,5)
noncomputable def L171_504 (s1:Int) (s2:Int) (s8:Int) (s9:Int) (e1:List Fw.Cell) (e2:List ByteArray) (e3:List ByteArray):Option (Fw.Mach×Int×Unit):=Ln 261 504 (⟨63,[(1,.ok (.v (.int .i64 s1))),(2,.ok (.v (.int .i64 s2))),(3,.ok (.pt 0 0)),(6,.ok (.pt 4 0)),(8,.ok (.v (.int .i64 s8))),(9,.ok (.v (.int .i64 s9)))],[(0,.var [.sl 1,.sl 2,.sl 3] 219),(1,.own 97 e1),(2,.own 9 e2),(3,.own 9 e3),(4,.var [.v (.slice none 0 0),.v (.slice none 0 0),.v (.slice none 0 0)] 219)]⟩,5)
noncomputable def L171_127 (s1:Int) (s2:Int) (e1:List Fw.Cell) (e2:List ByteArray) (e3:List ByteArray):Option (Fw.Mach×Int×Unit):=Ln 261 127 (⟨63,[(1,.ok (.v (.int .i64 s1))),(2,.ok (.v (.int .i64 s2))),(3,.ok (.pt 0 0)),(6,.ok (.pt 4 0))],[(0,.var [.sl 1,.sl 2,.sl 3] 219),(1,.own 97 e1),(2,.own 9 e2),(3,.own 9 e3),(4,.var [.v (.slice none 0 0),.v (.slice none 0 0),.v (.slice none 0 0)] 219)]⟩,5)
theorem E171 (x0:Fw.Mach) (x1:Int) (x2:Int):D171 x0 x1 x2=((D185 x0 x1).bind fun y0=>(D27 x2 0 y0.2.1).bind fun y1=>bif (!y1.1) then(some (y0.1,(4,()))) else gd (!(decide (8=0))) <| gd (!(decide (8=0))) <| bif (decide ((Int.tmod x2 8)>0)) then((D186 y0.1 x1 (IntKind.wrap .i64 (Int.tdiv x2 8))).bind fun y2=>gd (!(decide (8=0))) <| (D106 (Int.tmod x2 8) 0 (y2.2.1.size:Int)).bind fun y3=>gd ((decide (0≤0))&&((decide (0≤y3.1))&&(decide (y3.1≤(y2.2.1.size:Int))))) <| (D187 y2.1 x1 (IntKind.wrap .i64 (Int.tdiv x2 8)) (cutS y2.2.1 (0:Int).toNat y3.1.toNat)).bind fun y4=>L171_63 x1 x2 y0.2.1 (IntKind.wrap .i64 ((IntKind.wrap .i64 (Int.tdiv x2 8))+1)) y4.1.Store y4.1.Touch.Reads y4.1.Touch.Writes) else L171_63 x1 x2 y0.2.1 (IntKind.wrap .i64 (Int.tdiv x2 8)) y0.1.Store y0.1.Touch.Reads y0.1.Touch.Writes):=(Dn_eq _ _).trans (by kernel_rfl)
theorem P171_63 (s1:Int) (s2:Int) (s8:Int) (s9:Int) (e1:List Fw.Cell) (e2:List ByteArray) (e3:List ByteArray):L171_63 s1 s2 s8 s9 e1 e2 e3=(L171_504 s1 s2 s8 s9 e1 e2 e3):=(Ln_eq _ _ _).trans (by kernel_rfl)
theorem P171_504 (s1:Int) (s2:Int) (s8:Int) (s9:Int) (e1:List Fw.Cell) (e2:List ByteArray) (e3:List ByteArray):L171_504 s1 s2 s8 s9 e1 e2 e3=(bif (decide ((IntKind.wrap .i64 (s9*8))<s8)) then((D188 s1 s9).bind fun y0=>(D131 (⟨e1,(⟨e2,e3⟩:Fw.Touch)⟩:Fw.Mach) y0.1 (tx [])).bind fun y1=>L171_504 s1 s2 s8 (IntKind.wrap .i64 (s9+1)) y1.1.Store y1.1.Touch.Reads y1.1.Touch.Writes) else L171_127 s1 s2 e1 e2 e3):=(Ln_eq _ _ _).trans (by kernel_rfl)
theorem P171_127 (s1:Int) (s2:Int) (e1:List Fw.Cell) (e2:List ByteArray) (e3:List ByteArray):L171_127 s1 s2 e1 e2 e3=((D112 (tx [105,47]) s1 (tx [47,115])).bind fun y0=>(D90 (⟨e1,(⟨e2,e3⟩:Fw.Touch)⟩:Fw.Mach) y0.1 s2).bind fun y1=>some (y1.1,(0,()))):=(Ln_eq _ _ _).trans (by kernel_rfl)
theorem E172 (x0:Int) (x1:ByteArray):D172 x0 x1=((D112 (tx [112,47]) x0 x1).bind fun y0=>some (y0.1,())):=(Dn_eq _ _).trans (by kernel_rfl)
theorem E173 (x0:Fw.Mach) (x1:Int):D173 x0 x1=((D172 x1 (tx [47,111])).bind fun y0=>(D88 x0 y0.1).bind fun y1=>some (y1.1,((decide (y1.2.1=1)),()))):=(Dn_eq _ _).trans (by kernel_rfl)
theorem E174 (x0:Int) (x1:Int):D174 x0 x1=((D172 x0 (tx [47,113,47])).bind fun y0=>(D112 y0.1 x1 (tx [])).bind fun y1=>some (y1.1,())):=(Dn_eq _ _).trans (by kernel_rfl)
theorem E175 (x0:Int) (x1:ByteArray):D175 x0 x1=((D112 (tx [103,47]) x0 x1).bind fun y0=>some (y0.1,())):=(Dn_eq _ _).trans (by kernel_rfl)
theorem E176 (x0:Int) (x1:Int):D176 x0 x1=((D175 x0 (tx [47,113,47])).bind fun y0=>(D112 y0.1 x1 (tx [])).bind fun y1=>some (y1.1,())):=(Dn_eq _ _).trans (by kernel_rfl)
theorem E177 (x0:Fw.Mach) (x1:ByteArray):D177 x0 x1=(gd (decide ((x1.size+(tx [42]).size)≤9223372036854775807)) <| (D135 x0.Touch.Reads (x1++(tx [42]))).bind fun y0=>(D189 x0.Store x1).bind fun y1=>some ((⟨x0.Store,(⟨y0.1,x0.Touch.Writes⟩:Fw.Touch)⟩:Fw.Mach),(y1.1,()))):=(Dn_eq _ _).trans (by kernel_rfl)
theorem E178 (x0:Int):D178 x0=((D112 (tx [109,47]) x0 (tx [47])).bind fun y0=>some (y0.1,())):=(Dn_eq _ _).trans (by kernel_rfl)
noncomputable def L179_116 (s1:Int) (s2:Int) (s8:Int) (e1:List Fw.Cell) (e2:List ByteArray) (e3:List ByteArray) (e5:List ByteArray):Option (Fw.Mach×Unit):=Ln 273 116 (⟨47,[(1,.ok (.v (.int .i64 s1))),(2,.ok (.v (.int .i64 s2))),(3,.ok (.pt 0 0)),(6,.ok (.pt 4 0)),(7,.ok (.sl 5)),(8,.ok (.v (.int .i64 s8)))],[(0,.var [.sl 1,.sl 2,.sl 3] 219),(1,.own 97 e1),(2,.own 9 e2),(3,.own 9 e3),(4,.var [.v (.slice none 0 0),.v (.slice none 0 0),.v (.slice none 0 0)] 219),(5,.own 9 e5)]⟩,6)
noncomputable def L179_15 (e1:List Fw.Cell) (e2:List ByteArray) (e3:List ByteArray):Option (Fw.Mach×Unit):=Ln 273 15 (⟨47,[(3,.ok (.pt 0 0)),(6,.ok (.pt 4 0))],[(0,.var [.sl 1,.sl 2,.sl 3] 219),(1,.own 97 e1),(2,.own 9 e2),(3,.own 9 e3),(4,.var [.v (.slice none 0 0),.v (.slice none 0 0),.v (.slice none 0 0)] 219)]⟩,5)
theorem E179 (x0:Fw.Mach) (x1:Int) (x2:Int):D179 x0 x1 x2=((D178 x1).bind fun y0=>(D177 x0 y0.1).bind fun y1=>L179_116 x1 x2 0 y1.1.Store y1.1.Touch.Reads y1.1.Touch.Writes y1.2.1):=(Dn_eq _ _).trans (by kernel_rfl)
theorem P179_116 (s1:Int) (s2:Int) (s8:Int) (e1:List Fw.Cell) (e2:List ByteArray) (e3:List ByteArray) (e5:List ByteArray):L179_116 s1 s2 s8 e1 e2 e3 e5=(bif (decide (s8<(e5.length:Int))) then(gd ((decide (0≤s8))&&(decide (s8<(e5.length:Int)))) <| (D130 (⟨e1,(⟨e2,e3⟩:Fw.Touch)⟩:Fw.Mach) (nth e5 s8.toNat)).bind fun y0=>(D178 s2).bind fun y1=>gd ((decide (0≤s8))&&(decide (s8<(e5.length:Int)))) <| (D178 s1).bind fun y2=>gd ((decide (0≤(y2.1.size:Int)))&&((decide ((y2.1.size:Int)≤((nth e5 s8.toNat).size:Int)))&&(decide (((nth e5 s8.toNat).size:Int)≤((nth e5 s8.toNat).size:Int))))) <| gd (decide ((y1.1.size+(cutS (nth e5 s8.toNat) (y2.1.size:Int).toNat ((nth e5 s8.toNat).size:Int).toNat).size)≤9223372036854775807)) <| (D131 y0.1 (y1.1++(cutS (nth e5 s8.toNat) (y2.1.size:Int).toNat ((nth e5 s8.toNat).size:Int).toNat)) y0.2.1).bind fun y3=>L179_116 s1 s2 (IntKind.wrap .i64 (s8+1)) y3.1.Store y3.1.Touch.Reads y3.1.Touch.Writes e5) else L179_15 e1 e2 e3):=(Ln_eq _ _ _).trans (by kernel_rfl)
theorem P179_15 (e1:List Fw.Cell) (e2:List ByteArray) (e3:List ByteArray):L179_15 e1 e2 e3=(some ((⟨e1,(⟨e2,e3⟩:Fw.Touch)⟩:Fw.Mach),())):=(Ln_eq _ _ _).trans (by kernel_rfl)
theorem E180 (x0:Fw.Mach) (x1:Int) (x2:Int):D180 x0 x1 x2=((D136 x0 x1).bind fun y0=>bif (!(decide (y0.2.1=1))) then(some (y0.1,(2,()))) else(D27 x2 0 100).bind fun y1=>bif (!y1.1) then(some (y0.1,(4,()))) else(D91 x1 (tx [47,115])).bind fun y2=>(D90 y0.1 y2.1 2).bind fun y3=>(D91 x1 (tx [47,120])).bind fun y4=>(D90 y3.1 y4.1 (IntKind.wrap .i64 (x2+1))).bind fun y5=>some (y5.1,(0,()))):=(Dn_eq _ _).trans (by kernel_rfl)
theorem E181 (x0:Fw.Mach) (x1:Int):D181 x0 x1=((D178 x1).bind fun y0=>(D167 x0 y0.1).bind fun y1=>some (y1.1,())):=(Dn_eq _ _).trans (by kernel_rfl)
theorem E182 (x0:Fw.Mach) (x1:Int) (x2:Int):D182 x0 x1 x2=((D91 x2 (tx [47,112])).bind fun y0=>(D88 x0 y0.1).bind fun y1=>bif ((decide (y1.2.1=0))||(!(decide (y1.2.1=x1)))) then(some (y1.1,(0,(2,())))) else(D136 y1.1 x2).bind fun y2=>bif (decide (y2.2.1=1)) then(some (y2.1,(0,(5,())))) else bif (!(decide (y2.2.1=2))) then(some (y2.1,(0,(2,())))) else(D91 x2 (tx [47,120])).bind fun y3=>(D88 y2.1 y3.1).bind fun y4=>(D91 x2 (tx [47])).bind fun y5=>(D167 y4.1 y5.1).bind fun y6=>some (y6.1,((IntKind.wrap .i64 (y4.2.1 - 1)),(0,())))):=(Dn_eq _ _).trans (by kernel_rfl)
noncomputable def L183_244 (s1:Int) (s8:Int) (e1:List Fw.Cell) (e2:List ByteArray) (e3:List ByteArray) (e5:List ByteArray) (e6:List Int):Option (Fw.Mach×(List Int)×Unit):=Ln 277 244 (⟨58,[(1,.ok (.v (.int .i64 s1))),(2,.ok (.pt 0 0)),(4,.ok (.pt 4 0)),(6,.ok (.sl 5)),(7,.ok (.sl 6)),(8,.ok (.v (.int .i64 s8)))],[(0,.var [.sl 1,.sl 2,.sl 3] 219),(1,.own 97 e1),(2,.own 9 e2),(3,.own 9 e3),(4,.var [.v (.slice none 0 0),.v (.slice none 0 0),.v (.slice none 0 0)] 219),(5,.own 9 e5),(6,.own 3 e6)]⟩,7)
noncomputable def L183_31 (e1:List Fw.Cell) (e2:List ByteArray) (e3:List ByteArray) (e5:List Int):Option (Fw.Mach×(List Int)×Unit):=Ln 277 31 (⟨58,[(2,.ok (.pt 0 0)),(4,.ok (.pt 4 0)),(7,.ok (.sl 5))],[(0,.var [.sl 1,.sl 2,.sl 3] 219),(1,.own 97 e1),(2,.own 9 e2),(3,.own 9 e3),(4,.var [.v (.slice none 0 0),.v (.slice none 0 0),.v (.slice none 0 0)] 219),(5,.own 3 e5)]⟩,6)
noncomputable def L183_979 (s1:Int) (s8:Int) (e1:List Fw.Cell) (e2:List ByteArray) (e3:List ByteArray) (e5:List ByteArray) (e6:List Int):Option (Fw.Mach×(List Int)×Unit):=Ln 277 979 (⟨58,[(1,.ok (.v (.int .i64 s1))),(2,.ok (.pt 0 0)),(4,.ok (.pt 4 0)),(6,.ok (.sl 5)),(7,.ok (.sl 6)),(8,.ok (.v (.int .i64 s8)))],[(0,.var [.sl 1,.sl 2,.sl 3] 219),(1,.own 97 e1),(2,.own 9 e2),(3,.own 9 e3),(4,.var [.v (.slice none 0 0),.v (.slice none 0 0),.v (.slice none 0 0)] 219),(5,.own 9 e5),(6,.own 3 e6)]⟩,7)
theorem E183 (x0:Fw.Mach) (x1:Int):D183 x0 x1=((D177 x0 (tx [114,47])).bind fun y0=>L183_244 x1 0 y0.1.Store y0.1.Touch.Reads y0.1.Touch.Writes y0.2.1 []):=(Dn_eq _ _).trans (by kernel_rfl)
theorem P183_244 (s1:Int) (s8:Int) (e1:List Fw.Cell) (e2:List ByteArray) (e3:List ByteArray) (e5:List ByteArray) (e6:List Int):L183_244 s1 s8 e1 e2 e3 e5 e6=(bif (decide (s8<(e5.length:Int))) then(gd ((decide (0≤s8))&&(decide (s8<(e5.length:Int)))) <| gd (((decide (0≤(IntKind.wrap .i64 (((nth e5 s8.toNat).size:Int) - 2))))&&((decide ((IntKind.wrap .i64 (((nth e5 s8.toNat).size:Int) - 2))≤((nth e5 s8.toNat).size:Int)))&&(decide (((nth e5 s8.toNat).size:Int)≤((nth e5 s8.toNat).size:Int)))))||(!(!(decide (((nth e5 s8.toNat).size:Int)<5))))) <| bif ((decide (((nth e5 s8.toNat).size:Int)<5))||(!(decide ((cutS (nth e5 s8.toNat) (IntKind.wrap .i64 (((nth e5 s8.toNat).size:Int) - 2)).toNat ((nth e5 s8.toNat).size:Int).toNat)=(tx [47,112]))))) then(L183_979 s1 s8 e1 e2 e3 e5 e6) else(D88 (⟨e1,(⟨e2,e3⟩:Fw.Touch)⟩:Fw.Mach) (nth e5 s8.toNat)).bind fun y0=>bif (decide (y0.2.1=s1)) then(gd ((decide (0≤2))&&((decide (2≤(IntKind.wrap .i64 (((nth e5 s8.toNat).size:Int) - 2))))&&(decide ((IntKind.wrap .i64 (((nth e5 s8.toNat).size:Int) - 2))≤((nth e5 s8.toNat).size:Int))))) <| (D111 (cutS (nth e5 s8.toNat) (2:Int).toNat (IntKind.wrap .i64 (((nth e5 s8.toNat).size:Int) - 2)).toNat)).bind fun y1=>gd ((decide (((e6.length+1)*8)≤140737488355328))&&(decide ((e6.length+1)≤9223372036854775807))) <| L183_979 s1 s8 y0.1.Store y0.1.Touch.Reads y0.1.Touch.Writes e5 (e6++[y1.1])) else L183_979 s1 s8 y0.1.Store y0.1.Touch.Reads y0.1.Touch.Writes e5 e6) else L183_31 e1 e2 e3 e6):=(Ln_eq _ _ _).trans (by kernel_rfl)
theorem P183_31 (e1:List Fw.Cell) (e2:List ByteArray) (e3:List ByteArray) (e5:List Int):L183_31 e1 e2 e3 e5=(some ((⟨e1,(⟨e2,e3⟩:Fw.Touch)⟩:Fw.Mach),(e5,()))):=(Ln_eq _ _ _).trans (by kernel_rfl)
theorem P183_979 (s1:Int) (s8:Int) (e1:List Fw.Cell) (e2:List ByteArray) (e3:List ByteArray) (e5:List ByteArray) (e6:List Int):L183_979 s1 s8 e1 e2 e3 e5 e6=(L183_244 s1 (IntKind.wrap .i64 (s8+1)) e1 e2 e3 e5 e6):=(Ln_eq _ _ _).trans (by kernel_rfl)
theorem E184 (x0:ByteArray) (x1:ByteArray):D184 x0 x1=((D190 x0).bind fun y0=>(D190 x1).bind fun y1=>bif (y0.2.1&&y1.2.1) then((D191 y0.1 y1.1).bind fun y4=>bif (!y4.1) then((D191 y1.1 y0.1).bind fun y5=>some (y5.1,())) else some (true,())) else bif y0.2.1 then((D191 x1 y0.1).bind fun y3=>some (y3.1,())) else(D192 x1 x0).bind fun y2=>some (y2.1,())):=(Dn_eq _ _).trans (by kernel_rfl)
theorem E185 (x0:Fw.Mach) (x1:Int):D185 x0 x1=((D112 (tx [105,47]) x1 (tx [47,115])).bind fun y0=>(D88 x0 y0.1).bind fun y1=>some (y1.1,(y1.2.1,()))):=(Dn_eq _ _).trans (by kernel_rfl)
theorem E186 (x0:Fw.Mach) (x1:Int) (x2:Int):D186 x0 x1 x2=((D188 x1 x2).bind fun y0=>(D130 x0 y0.1).bind fun y1=>(D113 y1.2.1).bind fun y2=>bif (!y2.2.1) then(some (y1.1,((tx []),()))) else some (y1.1,(y2.1,()))):=(Dn_eq _ _).trans (by kernel_rfl)
theorem E187 (x0:Fw.Mach) (x1:Int) (x2:Int) (x3:ByteArray):D187 x0 x1 x2 x3=((D157 x3).bind fun y0=>(D188 x1 x2).bind fun y1=>(D131 x0 y1.1 y0.1).bind fun y2=>some (y2.1,())):=(Dn_eq _ _).trans (by kernel_rfl)
theorem E188 (x0:Int) (x1:Int):D188 x0 x1=((D112 (tx [105,47]) x0 (tx [47,98,47])).bind fun y0=>(D112 y0.1 x1 (tx [])).bind fun y1=>some (y1.1,())):=(Dn_eq _ _).trans (by kernel_rfl)
noncomputable def L189_116 (s0:List Fw.Cell) (s1:ByteArray) (s6:Int) (e0:List ByteArray):Option ((List ByteArray)×Unit):=Ln 319 116 (⟨30,[(0,.ok (.ro 97 s0)),(1,.ok (.v (.string s1))),(5,.ok (.sl 0)),(6,.ok (.v (.int .i64 s6)))],[(0,.own 9 e0)]⟩,1)
noncomputable def L189_15 (e0:List ByteArray):Option ((List ByteArray)×Unit):=Ln 319 15 (⟨30,[(5,.ok (.sl 0))],[(0,.own 9 e0)]⟩,1)
noncomputable def L189_467 (s0:List Fw.Cell) (s1:ByteArray) (s6:Int) (e0:List ByteArray):Option ((List ByteArray)×Unit):=Ln 319 467 (⟨30,[(0,.ok (.ro 97 s0)),(1,.ok (.v (.string s1))),(5,.ok (.sl 0)),(6,.ok (.v (.int .i64 s6)))],[(0,.own 9 e0)]⟩,1)
theorem E189 (x0:List Fw.Cell) (x1:ByteArray):D189 x0 x1=(L189_116 x0 x1 0 []):=(Dn_eq _ _).trans (by kernel_rfl)
theorem P189_116 (s0:List Fw.Cell) (s1:ByteArray) (s6:Int) (e0:List ByteArray):L189_116 s0 s1 s6 e0=(bif (decide (s6<(s0.length:Int))) then(gd ((decide (0≤s6))&&(decide (s6<(s0.length:Int)))) <| (D191 (nth s0 s6.toNat).Key s1).bind fun y0=>bif y0.1 then(gd ((decide (0≤s6))&&(decide (s6<(s0.length:Int)))) <| gd ((decide (((e0.length+1)*16)≤140737488355328))&&(decide ((e0.length+1)≤9223372036854775807))) <| L189_467 s0 s1 s6 (e0++[(nth s0 s6.toNat).Key])) else L189_467 s0 s1 s6 e0) else L189_15 e0):=(Ln_eq _ _ _).trans (by kernel_rfl)
theorem P189_15 (e0:List ByteArray):L189_15 e0=(some (e0,())):=(Ln_eq _ _ _).trans (by kernel_rfl)
theorem P189_467 (s0:List Fw.Cell) (s1:ByteArray) (s6:Int) (e0:List ByteArray):L189_467 s0 s1 s6 e0=(L189_116 s0 s1 (IntKind.wrap .i64 (s6+1)) e0):=(Ln_eq _ _ _).trans (by kernel_rfl)
theorem E190 (x0:ByteArray):D190 x0=(gd (((decide (0≤(IntKind.wrap .i64 ((x0.size:Int) - 1))))&&(decide ((IntKind.wrap .i64 ((x0.size:Int) - 1))<(x0.size:Int))))||(!(decide ((x0.size:Int)>0)))) <| bif ((decide ((x0.size:Int)>0))&&(decide (((byteAt x0 (IntKind.wrap .i64 ((x0.size:Int) - 1)).toNat).toNat:Int)=42))) then(gd ((decide (0≤0))&&((decide (0≤(IntKind.wrap .i64 ((x0.size:Int) - 1))))&&(decide ((IntKind.wrap .i64 ((x0.size:Int) - 1))≤(x0.size:Int))))) <| some ((cutS x0 (0:Int).toNat (IntKind.wrap .i64 ((x0.size:Int) - 1)).toNat),(true,()))) else some (x0,(false,()))):=(Dn_eq _ _).trans (by kernel_rfl)
theorem E191 (x0:ByteArray) (x1:ByteArray):D191 x0 x1=(gd (((decide (0≤0))&&((decide (0≤(x1.size:Int)))&&(decide ((x1.size:Int)≤(x0.size:Int)))))||(!(decide ((x0.size:Int)≥(x1.size:Int))))) <| some (((decide ((x0.size:Int)≥(x1.size:Int)))&&(decide ((cutS x0 (0:Int).toNat (x1.size:Int).toNat)=x1))),())):=(Dn_eq _ _).trans (by kernel_rfl)
theorem E192 (x0:ByteArray) (x1:ByteArray):D192 x0 x1=((D190 x0).bind fun y0=>bif y0.2.1 then((D191 x1 y0.1).bind fun y1=>some (y1.1,())) else some ((decide (x0=x1)),())):=(Dn_eq _ _).trans (by kernel_rfl)
theorem E2057 (x0:Fw.Kernel) (x1:Int):D2057 x0 x1=((D84 x0 x1).bind fun y0=>some ((decide (y0.2.1=0)),())):=(Dn_eq _ _).trans (by kernel_rfl)
theorem E2058 (x0:Fw.Kernel) (x1:Int):D2058 x0 x1=((D2070 x0 x1).bind fun y0=>some ((decide (y0.2.1=0)),())):=(Dn_eq _ _).trans (by kernel_rfl)
theorem E2070 (x0:Fw.Kernel) (x1:Int):D2070 x0 x1=((D2074 x0).bind fun y0=>(D2075 x0).bind fun y1=>bif (!y1.1) then(some (y0.1,(4,()))) else(D2085 x0 x1).bind fun y2=>bif (decide (y2.1<0)) then(some (y0.1,(21,()))) else gd ((decide (0≤y2.1))&&(decide (y2.1<(y0.1.Txs.length:Int)))) <| (D2163 x0.Store (nth y0.1.Txs y2.1.toNat)).bind fun y3=>(D2144 x0.Store y3.1).bind fun y4=>(D2164 y0.1 y4.1).bind fun y5=>bif (!y5.1) then(some (y5.2.1,(3,()))) else gd ((decide (0≤y2.1))&&(decide (y2.1<(y5.2.1.Txs.length:Int)))) <| (D2165 (nth y0.1.Txs y2.1.toNat)).bind fun y6=>(D2166 (nth y0.1.Txs y2.1.toNat).Answers).bind fun y7=>gd ((decide (((y5.2.1.History.length+1)*96)≤140737488355328))&&(decide ((y5.2.1.History.length+1)≤9223372036854775807))) <| some ({ y5.2.1 with Store:=y3.1,Txs:=(y5.2.1.Txs.set y2.1.toNat { (nth y5.2.1.Txs y2.1.toNat) with State:=2 }),Time:=(IntKind.wrap .i64 (y5.2.1.Time+1)),History:=(y5.2.1.History++[(⟨y5.2.1.Seq,2,(nth y0.1.Txs y2.1.toNat).Id,y6.1,y7.1,(nth y0.1.Txs y2.1.toNat).Began,(IntKind.wrap .i64 (y5.2.1.Time+1)),(decide ((y4.1.length:Int)>0))⟩:Fw.Entry)]) },(0,()))):=(Dn_eq _ _).trans (by kernel_rfl)
theorem E2074 (x0:Fw.Kernel):D2074 x0=((D2168 x0.Store).bind fun y0=>(D2171 x0.Txs).bind fun y1=>(D2172 x0.Disk).bind fun y2=>(D2173 x0.Seen).bind fun y3=>(D2115 x0.History).bind fun y4=>some ((⟨y0.1,y1.1,y2.1,x0.Seq,x0.Next,x0.Time,y4.1,y3.1,x0.Room⟩:Fw.Kernel),())):=(Dn_eq _ _).trans (by kernel_rfl)
noncomputable def L2075_116 (s22:List Fw.Tx) (s23:Int) (s24:Int) (e0_0:List Fw.Cell) (e0_1:List Fw.Tx) (e0_2:List Fw.Slot) (e0_3:ByteArray) (e0_4:Int) (e0_5:Int) (e0_6:Int) (e0_7:Int) (e0_8:List Fw.Entry) (e0_9:List ByteArray) (e0_10:Bool):Option (Bool×Unit):=Ln 44 116 (⟨48,[(1,.ok (.pt 0 0)),(22,.ok (.ro 88 s22)),(23,.ok (.v (.int .i64 s23))),(24,.ok (.v (.int .i64 s24)))],[(0,.var [.ro 97 e0_0,.ro 88 e0_1,.ro 144 e0_2,.v (.string e0_3),.v (.int .i64 e0_4),.v (.int .i64 e0_5),.v (.int .i64 e0_6),.v (.int .i64 e0_7),.ro 96 e0_8,.ro 9 e0_9,.v (.bool e0_10)] 43)]⟩,1)
noncomputable def L2075_15 (e0_0:List Fw.Cell) (e0_1:List Fw.Tx) (e0_2:List Fw.Slot) (e0_3:ByteArray) (e0_4:Int) (e0_5:Int) (e0_6:Int) (e0_7:Int) (e0_8:List Fw.Entry) (e0_9:List ByteArray) (e0_10:Bool):Option (Bool×Unit):=Ln 44 15 (⟨48,[(1,.ok (.pt 0 0))],[(0,.var [.ro 97 e0_0,.ro 88 e0_1,.ro 144 e0_2,.v (.string e0_3),.v (.int .i64 e0_4),.v (.int .i64 e0_5),.v (.int .i64 e0_6),.v (.int .i64 e0_7),.ro 96 e0_8,.ro 9 e0_9,.v (.bool e0_10)] 43)]⟩,1)
theorem E2075 (x0:Fw.Kernel):D2075 x0=((D2174 x0.Store).bind fun y0=>bif (!(!y0.1)) then((D2175 x0.Disk).bind fun y1=>bif (!(!y1.1)) then((D2090 x0.Seq 0 99000).bind fun y2=>bif (!y2.1) then(some (false,())) else L2075_116 x0.Txs (x0.Txs.length:Int) 0 x0.Store x0.Txs x0.Disk.Slots x0.Disk.Journal.Text x0.Disk.Journal.Sure x0.Seq x0.Next x0.Time x0.History x0.Seen x0.Room) else some (false,())) else some (false,())):=(Dn_eq _ _).trans (by kernel_rfl)
theorem P2075_116 (s22:List Fw.Tx) (s23:Int) (s24:Int) (e0_0:List Fw.Cell) (e0_1:List Fw.Tx) (e0_2:List Fw.Slot) (e0_3:ByteArray) (e0_4:Int) (e0_5:Int) (e0_6:Int) (e0_7:Int) (e0_8:List Fw.Entry) (e0_9:List ByteArray) (e0_10:Bool):L2075_116 s22 s23 s24 e0_0 e0_1 e0_2 e0_3 e0_4 e0_5 e0_6 e0_7 e0_8 e0_9 e0_10=(bif (decide (s24<s23)) then(gd ((decide (0≤s24))&&(decide (s24<(s22.length:Int)))) <| gd (((decide (0≤0))&&((decide (0≤s24))&&(decide (s24≤(e0_1.length:Int)))))||(!(!(decide ((nth s22 s24.toNat).Id≥e0_6))))) <| bif (!(decide ((nth s22 s24.toNat).Id≥e0_6))) then((D2161 (cutL e0_1 (0:Int).toNat s24.toNat) (nth s22 s24.toNat).Id).bind fun y0=>bif (decide (y0.1≥0)) then(some (false,())) else L2075_116 s22 s23 (IntKind.wrap .i64 (s24+1)) e0_0 e0_1 e0_2 e0_3 e0_4 e0_5 e0_6 e0_7 e0_8 e0_9 e0_10) else some (false,())) else L2075_15 e0_0 e0_1 e0_2 e0_3 e0_4 e0_5 e0_6 e0_7 e0_8 e0_9 e0_10):=(Ln_eq _ _ _).trans (by kernel_rfl)
theorem P2075_15 (e0_0:List Fw.Cell) (e0_1:List Fw.Tx) (e0_2:List Fw.Slot) (e0_3:ByteArray) (e0_4:Int) (e0_5:Int) (e0_6:Int) (e0_7:Int) (e0_8:List Fw.Entry) (e0_9:List ByteArray) (e0_10:Bool):L2075_15 e0_0 e0_1 e0_2 e0_3 e0_4 e0_5 e0_6 e0_7 e0_8 e0_9 e0_10=((D2176 e0_1).bind fun y0=>some (y0.1,())):=(Ln_eq _ _ _).trans (by kernel_rfl)
theorem E2078 (x0:List Fw.Cell) (x1:ByteArray):D2078 x0 x1=((D2180 x0 x1).bind fun y0=>bif (decide (y0.1≥0)) then(gd ((decide (0≤y0.1))&&(decide (y0.1<(x0.length:Int)))) <| some ((nth x0 y0.1.toNat).Val,())) else some ((tx []),())):=(Dn_eq _ _).trans (by kernel_rfl)
theorem E2079 (x0:Int) (x1:ByteArray):D2079 x0 x1=((D2181 (tx [114,47]) x0 x1).bind fun y0=>some (y0.1,())):=(Dn_eq _ _).trans (by kernel_rfl)
theorem E2080 (x0:Int):D2080 x0=((D2182 x0).bind fun y0=>some (y0.1,())):=(Dn_eq _ _).trans (by kernel_rfl)
theorem E2085 (x0:Fw.Kernel) (x1:Int):D2085 x0 x1=((D3183 x0.Txs x1).bind fun y0=>some (y0.1,())):=(Dn_eq _ _).trans (by kernel_rfl)
theorem E2090 (x0:Int) (x1:Int) (x2:Int):D2090 x0 x1 x2=(some (((decide (x0≥x1))&&(decide (x0≤x2))),())):=(Dn_eq _ _).trans (by kernel_rfl)
theorem E2099 (x0:List Fw.Cell) (x1:List Fw.Step):D2099 x0 x1=((D2202 x0).bind fun y0=>(D2203 y0.1 x1).bind fun y1=>some (y1.2.1.Store,(y1.1,()))):=(Dn_eq _ _).trans (by kernel_rfl)
theorem E2106 (x0:ByteArray):D2106 x0=(bif (decide ((x0.size:Int)>20000)) then(some ((tx []),(false,()))) else(D2213 ((sbytes x0).map fun x=>x)).bind fun y0=>some (y0.1,(true,()))):=(Dn_eq _ _).trans (by kernel_rfl)
noncomputable def L2115_116 (s8:Int) (s9:Int) (e0:List Fw.Entry):Option ((List Fw.Entry)×Unit):=Ln 86 116 (⟨34,[(3,.ok (.sl 0)),(8,.ok (.v (.int .i64 s8))),(9,.ok (.v (.int .i64 s9)))],[(0,.own 96 e0)]⟩,1)
noncomputable def L2115_15 (e0:List Fw.Entry):Option ((List Fw.Entry)×Unit):=Ln 86 15 (⟨34,[(3,.ok (.sl 0))],[(0,.own 96 e0)]⟩,1)
theorem E2115 (x0:List Fw.Entry):D2115 x0=((D2224 x0).bind fun y0=>L2115_116 (y0.1.length:Int) 0 y0.1):=(Dn_eq _ _).trans (by kernel_rfl)
theorem P2115_116 (s8:Int) (s9:Int) (e0:List Fw.Entry):L2115_116 s8 s9 e0=(bif (decide (s9<s8)) then(gd ((decide (0≤s9))&&(decide (s9<(e0.length:Int)))) <| (D2225 (nth e0 s9.toNat).Steps).bind fun y0=>gd ((decide (0≤s9))&&(decide (s9<(e0.length:Int)))) <| (D2166 (nth e0 s9.toNat).Answers).bind fun y1=>gd ((decide (0≤s9))&&(decide (s9<(e0.length:Int)))) <| gd ((decide (0≤s9))&&(decide (s9<((e0.set s9.toNat { (nth e0 s9.toNat) with Steps:=y0.1 }).length:Int)))) <| L2115_116 s8 (IntKind.wrap .i64 (s9+1)) ((e0.set s9.toNat { (nth e0 s9.toNat) with Steps:=y0.1 }).set s9.toNat { (nth (e0.set s9.toNat { (nth e0 s9.toNat) with Steps:=y0.1 }) s9.toNat) with Answers:=y1.1 })) else L2115_15 e0):=(Ln_eq _ _ _).trans (by kernel_rfl)
theorem P2115_15 (e0:List Fw.Entry):L2115_15 e0=(some (e0,())):=(Ln_eq _ _ _).trans (by kernel_rfl)
theorem E2143 (x0:Int) (x1:List Fw.Cell):D2143 x0 x1=(recX (x0,x1,())):=(Dn_eq _ _).trans (by kernel_rfl)
end Go.Proofs.YtapfpflmcgfbkaaGreatDoor.Ri
