/- Runs whose inputs are unknown: what the kernel cannot decide is asked, and shown aside; loops; calls of which one is known. Conditions: as each theorem names them. -/
import Derived.Test.YtffdpbhkkflgnaaGreatDoorShG

namespace Go.Sh
open Go

/-! ## What an operation looks at -/
theorem sop_congr {E : Env} {C : SCall} {o : Oper} {a0 a : SAct} {σ : SW} (h : ∀ x ∈ o.op.operands.toList, a0.eval x = a.eval x) : sop E C o a0 σ = sop E C o a σ := by
  have hargs : ∀ l : Array Operand, (∀ x ∈ l.toList, a0.eval x = a.eval x) → sargs a0 l = sargs a l := by
    intro l hl
    unfold sargs
    rw [List.map_congr_left hl]
  have hparts : ∀ l : Array (Nat × Operand), (∀ x ∈ l.toList, a0.eval x.2 = a.eval x.2) → sparts a0 l = sparts a l := by
    intro l hl
    unfold sparts
    refine List.map_congr_left fun x hx => ?_
    obtain ⟨i, y⟩ := x
    simp only [hl (i, y) hx]
  have hopt : ∀ x : Option Operand, (∀ y, x = some y → a0.eval y = a.eval y) → x.map a0.eval = x.map a.eval := by
    intro x hx
    cases x with
    | none => rfl
    | some y => simp only [Option.map_some, hx y rfl]
  have hgen : (∀ ρ ρ' : Operand → Value, ρ = a0.eval → ρ' = a.eval → execOp ρ o = execOp ρ' o) → sgen E o a0 σ = sgen E o a σ := by
    intro hh
    unfold sgen
    rw [hh _ _ rfl rfl]
  unfold sop
  cases hop : o.op <;> rw [hop] at h <;> simp only <;> simp only [Op.operands] at h
  case move x => rw [h x (by simp)]
  case assign x => rw [h x (by simp)]
  case pick c x y => rw [h c (by simp), h x (by simp), h y (by simp)]
  case box t x => rw [h x (by simp)]
  case build t ps => rw [hparts ps fun x hx => h x.2 (List.mem_map.2 ⟨x, hx, rfl⟩)]
  case buildSlice t len ps => rw [hparts ps fun x hx => h x.2 (List.mem_map.2 ⟨x, hx, rfl⟩)]
  case load t x => rw [h x (by simp)]
  case store t x v => rw [h x (by simp), h v (by simp)]
  case nilCheck x => rw [h x (by simp)]
  case binOp op t x y ft =>
    have hx := h x (by simp)
    have hy := h y (by simp)
    unfold sbinOp
    rw [hx, hy, hgen fun ρ ρ' e1 e2 => by subst e1; subst e2; simp only [execOp, hop, hx, hy]]
  case unOp op t x =>
    have hx := h x (by simp)
    exact hgen fun ρ ρ' e1 e2 => by subst e1; subst e2; simp only [execOp, hop, hx]
  case convert s d x => rw [h x (by simp)]
  case makeInterface t x => rw [h x (by simp)]
  case makeFunc fn f c => rw [hargs f fun x hx => h x (by simp at hx ⊢; exact .inl hx), hargs c fun x hx => h x (by simp at hx ⊢; exact .inr hx)]
  case makeMap t r => rw [hopt r fun y hy => h y (by simp [hy])]
  case makeSlice t l c => rw [h l (by simp), h c (by simp)]
  case slice t x lo hi mx => rw [h x (by simp), hopt lo fun y hy => h y (by simp [hy]), hopt hi fun y hy => h y (by simp [hy]), hopt mx fun y hy => h y (by simp [hy])]
  case fieldAddr t x f => rw [h x (by simp)]
  case field t x f => rw [h x (by simp)]
  case indexAddr t x i => rw [h x (by simp), h i (by simp)]
  case index t x i => rw [h x (by simp), h i (by simp)]
  case lookup t x k ok => rw [h x (by simp), h k (by simp)]
  case mapUpdate t m k v => rw [h m (by simp), h k (by simp), h v (by simp)]
  case range t x => rw [h x (by simp)]
  case next it b => rw [h it (by simp)]
  case typeAssert x xt t ok => rw [h x (by simp)]
  case extract x i => rw [h x (by simp)]
  case call c =>
    simp only [Call.operands] at h
    have ha := hargs c.args fun x hx => h x (by simp at hx ⊢; exact .inr hx)
    unfold scallOp
    simp only [ha]
    cases hc : c.callee with
    | value f =>
      have hf := h f (by simp [hc])
      simp only [hf]
    | invoke r m =>
      have hf := h r (by simp [hc])
      simp only [hf]
    | builtin b => rfl

/-! ## Activations of which a part is known -/
structure Has (a0 a : SAct) : Prop where
  n : a0.n = a.n
  marks : a0.marks = a.marks
  room : a.n + 1 < 2 ^ bits
  get : ∀ i v, a.t.get i = some v → a0.t.get i = some v

noncomputable def oknown (t : T Value) : List Operand → Bool
  | [] => true
  | .tmp i :: r => match t.get i with
    | some _ => oknown t r
    | none => false
  | _ :: r => oknown t r

theorem Has.eval {a0 a : SAct} (h : Has a0 a) : ∀ {l : List Operand}, oknown a.t l = true → ∀ x ∈ l, a0.eval x = a.eval x := by
  intro l
  induction l with
  | nil => intro _ x hx; cases hx
  | cons y l ih =>
    intro hk x hx
    cases y with
    | tmp i =>
      simp only [oknown] at hk
      cases hg : a.t.get i with
      | none => rw [hg] at hk; simp at hk
      | some v =>
        rw [hg] at hk
        rcases List.mem_cons.1 hx with rfl | hx
        · show (a0.t.get i).getD undef = (a.t.get i).getD undef
          rw [hg, h.get i v hg]
        · exact ih hk x hx
    | const v => rcases List.mem_cons.1 hx with rfl | hx; rfl; exact ih hk x hx
    | global g => rcases List.mem_cons.1 hx with rfl | hx; rfl; exact ih hk x hx
    | func f => rcases List.mem_cons.1 hx with rfl | hx; rfl; exact ih hk x hx

theorem Has.put {a0 a a' : SAct} (h : Has a0 a) {dst : Option Tmp} {v : Value} (hp : a.put dst v = some a') : ∃ a0', a0.put dst v = some a0' ∧ Has a0' a' := by
  obtain ⟨t0, n0, m0⟩ := a0
  obtain ⟨t, n, m⟩ := a
  obtain ⟨h1, h2, h3, h4⟩ := h
  simp only at h1 h2 h3 h4
  subst h1; subst h2
  cases dst with
  | none =>
    simp only [SAct.put, Option.some.injEq] at hp
    subst hp
    exact ⟨_, rfl, rfl, rfl, h3, h4⟩
  | some d =>
    simp only [SAct.put] at hp ⊢
    cases hb : Nat.blt d n0 with
    | false => rw [hb] at hp; simp at hp
    | true =>
      rw [hb] at hp
      simp only [cond_true, Option.some.injEq] at hp
      subst hp
      have hd : d < n0 := by simpa [Nat.blt_eq] using hb
      refine ⟨_, rfl, rfl, rfl, h3, fun i u hu => ?_⟩
      simp only at hu ⊢
      by_cases hi : i = d
      · subst hi
        have := T.get_set_same hu
        subst this
        exact T.get_set_lt _ (Nat.lt_trans (Nat.succ_lt_succ hd) h3)
      · rw [T.get_set_ne hi] at hu ⊢
        exact h4 i u hu

/-! ## A run that asks -/
noncomputable def all : List Prop → Prop
  | [] => True
  | [p] => p
  | p :: r => p ∧ all r

theorem all_append {l m : List Prop} (h : all (l ++ m)) : all l ∧ all m := by
  induction l with
  | nil => exact ⟨trivial, h⟩
  | cons p l ih =>
    cases l with
    | nil =>
      cases m with
      | nil => exact ⟨h, trivial⟩
      | cons q m => exact ⟨h.1, h.2⟩
    | cons q l =>
      have h : p ∧ all ((q :: l) ++ m) := h
      obtain ⟨h1, h2⟩ := ih h.2
      exact ⟨⟨h.1, h1⟩, h2⟩
theorem all_cons {p : Prop} {l : List Prop} (h : all (p :: l)) : p ∧ all l := by
  cases l with
  | nil => exact ⟨h, trivial⟩
  | cons q l => exact h

/-- What is told of a loop: what must be known at its head, how it ends, what is known behind it. -/
structure LAsk where
  livein : List (Nat × Value)
  e : SExit
  liveout : List (Nat × Value)
  σ : SW

structure Ask where
  ops : List (Nat × Nat × Value × SW)
  loops : List (Nat × LAsk)

noncomputable def findOp : List (Nat × Nat × Value × SW) → Nat → Nat → Option (Value × SW)
  | [], _, _ => none
  | (r, i, v) :: l, id, k => match Nat.beq r id, Nat.beq i k with
    | true, true => some v
    | _, _ => findOp l id k

noncomputable def findLoop : List (Nat × LAsk) → Nat → Option LAsk
  | [], _ => none
  | (r, v) :: l, id => match Nat.beq r id with
    | true => some v
    | false => findLoop l id

noncomputable def firstId : Code → Nat
  | .region id _ _ => id
  | .seq x _ => firstId x
  | .block _ c => firstId c
  | .loop c => firstId c
  | .scope c => firstId c
  | _ => 0

noncomputable def ofList (l : List (Nat × Value)) : T Value := l.foldl (fun t x => t.set bits x.1 x.2) .nil

noncomputable def owant (ops : Array Oper) (a : SAct) (o : Oper) : Option Bool :=
  match o.guard with
  | none => some true
  | some (j, want) => match ((ops[j]?).bind (·.dst)).bind a.t.get with
    | some (.bool b) => some (b == want)
    | some _ => some false
    | none => none

noncomputable def oput (a : SAct) (o : Oper) (v : Value) (k : SAct → Option ((SAct × SW) × List Prop)) : Option ((SAct × SW) × List Prop) :=
  match a.put o.dst v with
  | some a' => k a'
  | none => none

noncomputable def oadd {α : Type} (l : List Prop) : Option (α × List Prop) → Option (α × List Prop)
  | some (x, m) => some (x, l ++ m)
  | none => none

noncomputable def oops (E : Env) (C : SCall) (ask : Ask) (id : Nat) (ops : Array Oper) : List Oper → Nat → SAct → SW → Option ((SAct × SW) × List Prop)
  | [], _, a, σ => some ((a, σ), [])
  | o :: r, i, a, σ => match owant ops a o with
    | none => none
    | some false => oput a o undef fun a' => oops E C ask id ops r (i + 1) a' σ
    | some true => match oknown a.t o.op.operands.toList with
      | false => none
      | true => match findOp ask.ops id i with
        | some (v, σ') => oadd [sop E C o a σ = some (v, σ')] (oput a o v fun a' => oops E C ask id ops r (i + 1) a' σ')
        | none => match sop E C o a σ with
          | some (v, σ') => oput a o v fun a' => oops E C ask id ops r (i + 1) a' σ'
          | none => none

theorem oadd_some {α : Type} {l m : List Prop} {r : Option (α × List Prop)} {x : α} (h : oadd l r = some (x, m)) : ∃ m', r = some (x, m') ∧ m = l ++ m' := by
  cases r with
  | none => simp [oadd] at h
  | some p =>
    obtain ⟨y, m'⟩ := p
    simp only [oadd, Option.some.injEq, Prod.mk.injEq] at h
    exact ⟨m', by rw [h.1], h.2.symm⟩

theorem owant_eq {ops : Array Oper} {a0 a : SAct} {o : Oper} {b : Bool} (h : Has a0 a) (hw : owant ops a o = some b) : swanted ops a0 o = b := by
  unfold owant at hw
  unfold swanted
  cases hg : o.guard with
  | none => rw [hg] at hw; simpa using hw
  | some p =>
    obtain ⟨j, want⟩ := p
    rw [hg] at hw
    simp only at hw ⊢
    cases hd : (ops[j]?).bind (·.dst) with
    | none => rw [hd] at hw; simp at hw
    | some d =>
      rw [hd] at hw
      simp only [Option.bind_some] at hw ⊢
      cases hv : a.t.get d with
      | none => rw [hv] at hw; simp at hw
      | some v =>
        rw [hv] at hw
        rw [h.get d v hv]
        cases v <;> simp only [Option.some.injEq] at hw <;> exact hw

theorem oops_sound {E : Env} {C : SCall} {ask : Ask} {id : Nat} {ops : Array Oper} : ∀ {l : List Oper} {i : Nat} {a : SAct} {σ : SW} {b : SAct} {σ' : SW} {m : List Prop}, oops E C ask id ops l i a σ = some ((b, σ'), m) → all m →
    ∀ {a0}, Has a0 a → ∃ b0, sops E C ops l a0 σ = some (b0, σ') ∧ Has b0 b := by
  intro l
  induction l with
  | nil =>
    intro i a σ b σ' m h _ a0 ha
    simp only [oops, Option.some.injEq, Prod.mk.injEq] at h
    obtain ⟨⟨rfl, rfl⟩, _⟩ := h
    exact ⟨a0, rfl, ha⟩
  | cons o l ih =>
    intro i a σ b σ' m h hm a0 ha
    -- what is laid down, and on
    have lay : ∀ (v : Value) (σ1 : SW) (m1 : List Prop), (oput a o v fun a' => oops E C ask id ops l (i + 1) a' σ1) = some ((b, σ'), m1) → all m1 →
        ∃ b0, (match a0.put o.dst v with | some a' => sops E C ops l a' σ1 | none => none) = some (b0, σ') ∧ Has b0 b := by
      intro v σ1 m1 h hm
      unfold oput at h
      cases hp : a.put o.dst v with
      | none => rw [hp] at h; simp at h
      | some a' =>
        rw [hp] at h
        obtain ⟨a0', hp0, ha'⟩ := ha.put hp
        rw [hp0]
        exact ih h hm ha'
    simp only [oops] at h
    cases hw : owant ops a o with
    | none => rw [hw] at h; simp at h
    | some w =>
      rw [hw] at h
      have hw0 := owant_eq ha hw
      simp only [sops, sstep, hw0]
      cases w with
      | false =>
        obtain ⟨b0, h1, h2⟩ := lay undef σ m h hm
        refine ⟨b0, ?_, h2⟩
        simp only
        cases hp : a0.put o.dst undef with
        | none => rw [hp] at h1; simp at h1
        | some a' => rw [hp] at h1; exact h1
      | true =>
        simp only at h
        cases hk : oknown a.t o.op.operands.toList with
        | false => rw [hk] at h; simp at h
        | true =>
          rw [hk] at h
          simp only at h
          have hc : sop E C o a0 σ = sop E C o a σ := sop_congr (ha.eval hk)
          have fin : ∀ (v : Value) (σ1 : SW) (m1 : List Prop), sop E C o a σ = some (v, σ1) → (oput a o v fun a' => oops E C ask id ops l (i + 1) a' σ1) = some ((b, σ'), m1) → all m1 →
              ∃ b0, (match (match sop E C o a0 σ with | some (v, σ') => (match a0.put o.dst v with | some a' => some (a', σ') | none => none) | none => none) with | some (a', σ') => sops E C ops l a' σ' | none => none) = some (b0, σ') ∧ Has b0 b := by
            intro v σ1 m1 hs ho hm1
            obtain ⟨b0, h1, h2⟩ := lay v σ1 m1 ho hm1
            refine ⟨b0, ?_, h2⟩
            rw [hc, hs]
            simp only
            cases hp : a0.put o.dst v with
            | none => rw [hp] at h1; simp at h1
            | some a' => rw [hp] at h1; exact h1
          cases hf : findOp ask.ops id i with
          | some r =>
            obtain ⟨v, σ1⟩ := r
            rw [hf] at h
            obtain ⟨m', h1, rfl⟩ := oadd_some h
            obtain ⟨h2, h3⟩ := all_append hm
            exact fin v σ1 m' h2 h1 h3
          | none =>
            rw [hf] at h
            simp only at h
            cases hs : sop E C o a σ with
            | none => rw [hs] at h; simp at h
            | some r =>
              obtain ⟨v, σ1⟩ := r
              rw [hs] at h
              exact fin v σ1 m hs h hm

end Go.Sh

namespace Go.Sh
open Go

/-! ## Regions that draw, run asking -/
theorem sfloat_congr {E : Env} {o : Oper} {a0 a : SAct} {b : Nat} (h : ∀ x ∈ o.op.operands.toList, a0.eval x = a.eval x) : sfloat E o.op a0 b = sfloat E o.op a b := by
  have hparts : ∀ l : Array (Nat × Operand), (∀ x ∈ l.toList, a0.eval x.2 = a.eval x.2) → sparts a0 l = sparts a l := by
    intro l hl
    unfold sparts
    refine List.map_congr_left fun x hx => ?_
    obtain ⟨i, y⟩ := x
    simp only [hl (i, y) hx]
  have hopt : ∀ x : Option Operand, (∀ y, x = some y → a0.eval y = a.eval y) → x.map a0.eval = x.map a.eval := by
    intro x hx
    cases x with
    | none => rfl
    | some y => simp only [Option.map_some, hx y rfl]
  unfold sfloat
  cases hop : o.op <;> rw [hop] at h <;> simp only <;> simp only [Op.operands] at h
  case makeSlice t l c => rw [h l (by simp), h c (by simp)]
  case buildSlice t len ps => rw [hparts ps fun x hx => h x.2 (List.mem_map.2 ⟨x, hx, rfl⟩)]
  case makeMap t r => rw [hopt r fun y hy => h y (by simp [hy])]
  case box t x => rw [h x (by simp)]

noncomputable def ostep (E : Env) (C : SCall) (ask : Ask) (id : Nat) (n0 : Nat) (o : Oper) (i : Nat) (a : SAct) (σ : SW) : Bool → Option ((Value × SW) × List Prop)
  | false => some ((undef, σ), [])
  | true => match oknown a.t o.op.operands.toList with
    | false => none
    | true => match floatOp o.op with
      | true => match sfloat E o.op a (n0 + i) with
        | some (v, so) => some ((v, σ.setObj (n0 + i) so), [])
        | none => none
      | false => match findOp ask.ops id i with
        | some (v, σ') => some ((v, σ'), [sop E C o a σ = some (v, σ')])
        | none => match sop E C o a σ with
          | some r => some (r, [])
          | none => none

noncomputable def odraw (E : Env) (C : SCall) (ask : Ask) (id : Nat) (ops : Array Oper) (n0 : Nat) (D : T Nat) : List Oper → Nat → T Nat → Option Nat → SAct → SW → Option ((List SRec × SAct × SW) × List Prop)
  | [], _, _, _, a, σ => some (([], a, σ), [])
  | o :: r, i, B, last, a, σ =>
    match sedges o.after.toList i B 0 with
    | none => none
    | some m =>
      match slots D m o.op.operands.toList, (match o.guard with | some (j, _) => tb m j | none => true), (match loudOp E o.op, last with | true, some l => tb m l | _, _ => true), owant ops a o with
      | true, true, true, some w =>
        match ostep E C ask id n0 o i a σ w with
        | none => none
        | some ((v, σ'), l) => match a.put o.dst v with
          | none => none
          | some a' => match odraw E C ask id ops n0 D r (i + 1) (B.set bits i m) (match loudOp E o.op with | false => last | true => some i) a' σ' with
            | none => none
            | some ((L, a'', σ''), l') => some ((⟨o, i, m, a, σ, v⟩ :: L, a'', σ''), l ++ l')
      | _, _, _, _ => none

/-- Which quiet operations look at memory. -/
noncomputable def memOp : Op → Bool
  | .load .. | .lookup .. => true
  | _ => false

/-- Values that are seen to be equal to themselves. -/
noncomputable def vsfit (q : Value → Bool) : List Value → Bool
  | [] => true
  | a :: x => match q a with
    | true => vsfit q x
    | false => false

noncomputable def vfit : Nat → Value → Bool
  | 0, _ => false
  | d + 1, a => match a with
    | .bool _ | .int _ _ | .float _ _ | .string _ | .nilFunc | .nilIface | .map none | .map (some _) => true
    | .pointer x => obeq abeq x x
    | .slice x _ _ => obeq abeq x x
    | .iface _ x => vfit d x
    | .agg x | .tuple x => vsfit (vfit d) x.toList
    | .func f x c => fbeq f f && vsfit (vfit d) x.toList && vsfit (vfit d) c.toList
    | _ => false

noncomputable def pagain (E : Env) (C : SCall) (n : Nat) (x : SRec) (all : List (Nat × Nat × SW)) : List (Nat × Nat × SW) → List Prop
  | [] => []
  | (p, _, σ) :: r => match sfree n x.i x.m p all with
    | false => pagain E C n x all r
    | true => (sop E C x.o x.s σ = some (x.v, σ)) :: pagain E C n x all r

/-- That what reads memory reads the same wherever it may come. -/
noncomputable def pagains (E : Env) (C : SCall) (ops : Array Oper) (n : Nat) (all : List (Nat × Nat × SW)) : List SRec → Option (List Prop)
  | [] => some []
  | x :: r => match pagains E C ops n all r with
    | none => none
    | some l => match quietOp E x.o.op, owant ops x.s x.o with
      | true, some true => match vfit 40 x.v, memOp x.o.op with
        | true, true => some (pagain E C n x all all ++ l)
        | true, false => some l
        | false, _ => none
      | _, _ => some l

noncomputable def oregion (E : Env) (C : SCall) (ask : Ask) (id : Nat) (ops : Array Oper) (a : SAct) (σ : SW) : Option ((SAct × SW) × List Prop) :=
  match sdsts ops.toList 0 .nil with
  | none => none
  | some D => match odraw E C ask id ops σ.n D ops.toList 0 .nil none a ⟨σ.h, σ.n + ops.size, σ.b⟩ with
    | none => none
    | some ((L, a', σ'), l) => match pagains E C ops ops.size (smods E ops.size σ' L) L with
      | none => none
      | some l' => some ((a', σ'), l ++ l')

section
variable {E : Env} {C : SCall}

theorem nm_any {P : Program} {α : Type} {Q : α → Prop} {t : Sem α} (h : NM P Q t) : ∀ {σ σ' : SW} {a : α}, srun P t σ = some (a, σ') → ∀ σp, srun P t σp = some (a, σp) := by
  induction h with
  | pure h => intro σ σ' a hs σp; simp only [srun, Option.some.injEq, Prod.mk.injEq] at hs ⊢; exact ⟨hs.1, trivial⟩
  | program _ ih => intro σ σ' a hs σp; simp only [srun] at hs ⊢; exact ih hs σp
  | @choose q k _ ih =>
    intro σ σ' a hs σp
    simp only [srun] at hs ⊢
    cases hq : q.forced with
    | true => rw [hq] at hs; exact ih hs σp
    | false => rw [hq] at hs; simp at hs
  | mark _ ih => intro σ σ' a hs σp; simp only [srun] at hs ⊢; exact ih hs σp
  | fails hf => intro σ σ' a hs; rw [hf] at hs; cases hs

theorem sgen_any {o : Oper} {s : SAct} {σ σ' : SW} {v : Value} {Q : Next → Prop} (hn : NM E.P Q (execOp s.eval o)) (h : sgen E o s σ = some (v, σ')) (σp : SW) : sgen E o s σp = some (v, σp) := by
  unfold sgen at h ⊢
  cases hr : srun E.P (execOp s.eval o) σ with
  | none => rw [hr] at h; simp at h
  | some x =>
    obtain ⟨n, σ1⟩ := x
    rw [nm_any hn hr σp]
    rw [hr] at h
    cases n <;> simp only [Option.some.injEq, Prod.mk.injEq, reduceCtorEq] at h ⊢ <;> exact ⟨h.1, trivial⟩

theorem skeep_any {ov : Option Value} {v : Value} {σ σ' : SW} (h : skeep σ ov = some (v, σ')) (σp : SW) : skeep σp ov = some (v, σp) := by
  obtain ⟨rfl, _⟩ := skeep_some h
  rfl

theorem sbinOp_any {o : Oper} {s : SAct} {op : BinOp} {t : TypeId} {x y : Operand} {ft : TypeId} {σ σ' : SW} {v : Value} (ho : o.op = .binOp op t x y ft) (h : sbinOp E o s op t x y σ = some (v, σ')) (σp : SW) : sbinOp E o s op t x y σp = some (v, σp) := by
  have gen : ∀ k k' n n', s.eval x = .int k n → s.eval y = .int k' n' → sgen E o s σ = some (v, σ') → sgen E o s σp = some (v, σp) := by
    intro k k' n n' e1 e2 hg
    refine sgen_any (Q := fun _ => True) ?_ hg σp
    simp only [execOp, ho, e1, e2]
    exact nm_value (nm_bind nm_guard fun _ _ => nm_binInt _ _ _ _ _ _)
  unfold sbinOp at h ⊢
  split at h
  · split at h
    · simp only [Option.some.injEq, Prod.mk.injEq] at h ⊢; exact ⟨h.1, trivial⟩
    · simp at h
  · rename_i e1 e2
    split at h
    · simp only [Option.some.injEq, Prod.mk.injEq] at h ⊢; exact ⟨h.1, trivial⟩
    · exact gen _ _ _ _ e1 e2 h
  · simp at h
  · simp at h
  · repeat' split at h
    all_goals first
      | (simp at h; done)
      | (simp only [Option.some.injEq, Prod.mk.injEq] at h ⊢; exact ⟨h.1, trivial⟩)

theorem sslice_any {t : TypeId} {x : Value} {lo hi mx : Option Value} {σ σ' : SW} {v : Value} (h : sslice E t x lo hi mx σ = some (v, σ')) (σp : SW) : sslice E t x lo hi mx σp = some (v, σp) := by
  unfold sslice at h ⊢
  repeat' split at h
  all_goals first
    | (simp at h; done)
    | (generalize (mxok _ _ && _ && _ && _ && _) = b at h ⊢
       cases b <;> simp only [cond_true, cond_false, Option.some.injEq, Prod.mk.injEq, reduceCtorEq] at h ⊢
       exact ⟨h.1, trivial⟩)
    | (generalize (Nat.ble _ _ && Nat.ble _ _) = b at h ⊢
       cases b <;> simp only [cond_true, cond_false, Option.some.injEq, Prod.mk.injEq, reduceCtorEq] at h ⊢
       exact ⟨h.1, trivial⟩)

theorem slen_any {ts : Array TypeId} {args : Array Value} {σ σ' : SW} {v : Value} (h : slen E ts args σ = some (v, σ')) (σp : SW) : slen E ts args σp = some (v, σp) := by
  unfold slen at h ⊢
  repeat' split at h
  all_goals first
    | (simp at h; done)
    | (simp only [Option.some.injEq, Prod.mk.injEq] at h ⊢; exact ⟨h.1, trivial⟩)

/-- A quiet operation that looks at no memory comes to the same in any. -/
theorem sop_any {o : Oper} {s : SAct} {σ σ' : SW} {v : Value} (hq : quietOp E o.op = true) (hm : memOp o.op = false) (h : sop E C o s σ = some (v, σ')) (σp : SW) : sop E C o s σp = some (v, σp) := by
  unfold sop at h ⊢
  cases ho : o.op <;> rw [ho] at h hq hm <;> simp only [quietOp, Bool.false_eq_true] at hq <;> simp only [memOp, Bool.true_eq_false] at hm <;> simp only at h ⊢
  case slice t x lo hi mx => exact sslice_any h σp
  case binOp op t x y ft => exact sbinOp_any ho h σp
  case unOp op t x =>
    refine sgen_any (Q := fun _ => True) ?_ h σp
    simp only [execOp, ho]
    exact nm_value (nm_unAny _ _)
  case convert src dst x =>
    unfold intConv at hq
    cases h1 : E.P.underlying src with
    | none => rw [h1] at hq; simp at hq
    | some d1 =>
      rw [h1] at hq
      cases h2 : E.P.underlying dst with
      | none => rw [h2] at hq; cases d1 <;> simp at hq
      | some d2 =>
        rw [h2] at hq
        cases d1 <;> first | (simp at hq; done) | skip
        cases d2 <;> first | (simp at hq; done) | skip
        unfold sconvert at h ⊢
        rw [h1, h2] at h ⊢
        generalize s.eval x = y at h ⊢
        cases y <;> first
          | (simp at h; done)
          | (simp only [Option.some.injEq, Prod.mk.injEq] at h ⊢; exact ⟨h.1, trivial⟩)
  case pick c x y =>
    repeat' split at h
    all_goals first
      | (simp at h; done)
      | (simp only [Option.some.injEq, Prod.mk.injEq] at h ⊢; exact ⟨h.1, trivial⟩)
  case extract x i =>
    split at h
    · exact skeep_any h σp
    · simp at h
  case makeFunc fn f c =>
    split at h
    · simp at h
    · simp only [Option.some.injEq, Prod.mk.injEq] at h ⊢; exact ⟨h.1, trivial⟩
  case call c =>
    cases hc : c.callee <;> rw [hc] at hq <;> first | (simp at hq; done) | skip
    rename_i b
    cases b <;> first | (simp at hq; done) | skip
    all_goals
      unfold scallOp at h ⊢
      rw [hc] at h ⊢
      simp only [sbuiltin] at h ⊢
    · exact slen_any h σp
    · repeat' split at h
      all_goals first
        | (simp at h; done)
        | (simp only [Option.some.injEq, Prod.mk.injEq] at h ⊢; exact ⟨h.1, trivial⟩)
    · repeat' split at h
      all_goals first
        | (simp at h; done)
        | (simp only [Option.some.injEq, Prod.mk.injEq] at h ⊢; exact ⟨h.1, trivial⟩)
  all_goals first
    | exact skeep_any h σp
    | (simp only [Option.some.injEq, Prod.mk.injEq] at h ⊢; exact ⟨h.1, trivial⟩)

/-! ## Seen equal -/
theorem kbeq_refl (k : IntKind) : kbeq k k = true := by cases k <;> rfl
theorem fkbeq_refl (k : FloatKind) : fkbeq k k = true := by cases k <;> rfl
theorem vsfit_eq {q : Value → Bool} {r : Value → Value → Bool} (h : ∀ a, q a = true → r a a = true) : ∀ {l : List Value}, vsfit q l = true → vsbeq r l l = true := by
  intro l
  induction l with
  | nil => intro _; rfl
  | cons a x ih =>
    intro hl
    simp only [vsfit] at hl
    cases hq : q a with
    | false => rw [hq] at hl; simp at hl
    | true =>
      rw [hq] at hl
      simp only [vsbeq, h a hq]
      exact ih hl

theorem vfit_veq : ∀ (d : Nat) (a : Value), vfit d a = true → veq d a a = true
  | 0, _, h => by simp [vfit] at h
  | d + 1, a, h => by
    have ih := vfit_veq d
    cases a with
    | bool x => simp [veq]
    | int k x => simp [veq, kbeq_refl, ibeq_eq]
    | float k x => simp [veq, fkbeq_refl, Nat.beq_refl]
    | string x => simp [veq, beqBytes_eq]
    | nilFunc => rfl
    | nilIface => rfl
    | pointer x => exact h
    | slice x l c =>
      have h : obeq abeq x x = true := h
      simp [veq, h, Nat.beq_refl]
    | iface t x =>
      have h : vfit d x = true := h
      simp [veq, Nat.beq_refl, ih x h]
    | agg x => exact vsfit_eq ih (l := x.toList) h
    | tuple x => exact vsfit_eq ih (l := x.toList) h
    | func f x c =>
      have h : (fbeq f f && vsfit (vfit d) x.toList && vsfit (vfit d) c.toList) = true := h
      simp only [Bool.and_eq_true] at h
      have h1 := vsfit_eq ih h.1.2
      have h2 := vsfit_eq ih h.2
      simp [veq, h.1.1, h1, h2]
    | map x => cases x <;> simp [veq, Nat.beq_refl]
    | _ => simp [vfit] at h

/-! ## The region's run -/
/-- What one of the run's rows is to the other run's. -/
structure RecR (E : Env) (C : SCall) (ops : Array Oper) (x0 x : SRec) : Prop where
  o : x0.o = x.o
  i : x0.i = x.i
  m : x0.m = x.m
  σ : x0.σ = x.σ
  v : x0.v = x.v
  has : Has x0.s x.s
  want : ∃ w, owant ops x.s x.o = some w
  known : owant ops x.s x.o = some true → oknown x.s.t x.o.op.operands.toList = true
  ran : owant ops x.s x.o = some true → floatOp x.o.op = false → ∃ σ1, sop E C x.o x.s x.σ = some (x.v, σ1)

theorem ostep_sound {ask : Ask} {id n0 i : Nat} {o : Oper} {ops : Array Oper} {a a0 : SAct} {σ σ' : SW} {w : Bool} {v : Value} {m : List Prop} (h : ostep E C ask id n0 o i a σ w = some ((v, σ'), m)) (hm : all m) (ha : Has a0 a) (hw : owant ops a o = some w) :
    sdstep E C ops n0 o i a0 σ = some (v, σ') ∧ (w = true → oknown a.t o.op.operands.toList = true) ∧ (w = true → floatOp o.op = false → sop E C o a σ = some (v, σ')) := by
  have hw0 := owant_eq ha hw
  unfold sdstep
  rw [hw0]
  cases w with
  | false =>
    simp only [ostep, Option.some.injEq, Prod.mk.injEq] at h
    obtain ⟨⟨rfl, rfl⟩, _⟩ := h
    exact ⟨rfl, by simp, by simp⟩
  | true =>
    simp only [ostep] at h
    cases hk : oknown a.t o.op.operands.toList with
    | false => rw [hk] at h; simp at h
    | true =>
      rw [hk] at h
      simp only at h ⊢
      cases hf : floatOp o.op with
      | true =>
        rw [hf] at h
        simp only at h
        rw [sfloat_congr (ha.eval hk)]
        cases hs : sfloat E o.op a (n0 + i) with
        | none => rw [hs] at h; simp at h
        | some p =>
          obtain ⟨u, so⟩ := p
          rw [hs] at h
          simp only [Option.some.injEq, Prod.mk.injEq] at h
          obtain ⟨⟨rfl, rfl⟩, _⟩ := h
          exact ⟨rfl, fun _ => trivial, fun _ h => by simp at h⟩
      | false =>
        rw [hf] at h
        simp only at h ⊢
        rw [sop_congr (ha.eval hk)]
        have key : sop E C o a σ = some (v, σ') := by
          cases hq : findOp ask.ops id i with
          | some r =>
            obtain ⟨u, σ1⟩ := r
            rw [hq] at h
            simp only [Option.some.injEq, Prod.mk.injEq] at h
            obtain ⟨⟨rfl, rfl⟩, rfl⟩ := h
            exact hm
          | none =>
            rw [hq] at h
            simp only at h
            cases hs : sop E C o a σ with
            | none => rw [hs] at h; simp at h
            | some r =>
              obtain ⟨u, σ1⟩ := r
              rw [hs] at h
              simp only [Option.some.injEq, Prod.mk.injEq] at h
              rw [h.1.1, h.1.2]
        exact ⟨key, fun _ => trivial, fun _ _ => key⟩

noncomputable def gok (m : Nat) : Option (Nat × Bool) → Bool
  | some (j, _) => tb m j
  | none => true
noncomputable def lok (m : Nat) : Bool → Option Nat → Bool
  | true, some l => tb m l
  | _, _ => true

theorem sdraw_step {n0 : Nat} {ops : Array Oper} {D : T Nat} {o : Oper} {r : List Oper} {i : Nat} {B : T Nat} {last : Option Nat} {a : SAct} {σ : SW} :
    sdraw E C ops n0 D (o :: r) i B last a σ = match sedges o.after.toList i B 0 with
    | none => none
    | some m => match slots D m o.op.operands.toList, gok m o.guard, lok m (loudOp E o.op) last with
      | true, true, true => match sdstep E C ops n0 o i a σ with
        | none => none
        | some (v, σ') => match a.put o.dst v with
          | none => none
          | some a' => match sdraw E C ops n0 D r (i + 1) (B.set bits i m) (match loudOp E o.op with | false => last | true => some i) a' σ' with
            | none => none
            | some (l, a'', σ'') => some (⟨o, i, m, a, σ, v⟩ :: l, a'', σ'')
      | _, _, _ => none := rfl

theorem sdraw_cons {n0 : Nat} {ops : Array Oper} {D : T Nat} {o : Oper} {r : List Oper} {i : Nat} {B : T Nat} {last : Option Nat} {a : SAct} {σ : SW} {m : Nat} (hm : sedges o.after.toList i B 0 = some m) (h1 : slots D m o.op.operands.toList = true) (h2 : gok m o.guard = true) (h3 : lok m (loudOp E o.op) last = true) :
    sdraw E C ops n0 D (o :: r) i B last a σ = match sdstep E C ops n0 o i a σ with
        | none => none
        | some (v, σ') => match a.put o.dst v with
          | none => none
          | some a' => match sdraw E C ops n0 D r (i + 1) (B.set bits i m) (match loudOp E o.op with | false => last | true => some i) a' σ' with
            | none => none
            | some (l, a'', σ'') => some (⟨o, i, m, a, σ, v⟩ :: l, a'', σ'') := by
  rw [sdraw_step, hm]
  simp only [h1, h2, h3]

theorem odraw_sound {ask : Ask} {id n0 : Nat} {ops : Array Oper} {D : T Nat} : ∀ {l : List Oper} {i : Nat} {B : T Nat} {last : Option Nat} {a b : SAct} {σ σ' : SW} {L : List SRec} {m : List Prop},
    odraw E C ask id ops n0 D l i B last a σ = some ((L, b, σ'), m) → all m → ∀ {a0}, Has a0 a →
    ∃ L0 b0, sdraw E C ops n0 D l i B last a0 σ = some (L0, b0, σ') ∧ Has b0 b ∧ F2 (RecR E C ops) L0 L := by
  intro l
  induction l with
  | nil =>
    intro i B last a b σ σ' L m h _ a0 ha
    simp only [odraw, Option.some.injEq, Prod.mk.injEq] at h
    obtain ⟨⟨rfl, rfl, rfl⟩, _⟩ := h
    exact ⟨[], a0, rfl, ha, .nil⟩
  | cons o l ih =>
    intro i B last a b σ σ' L m h hm a0 ha
    simp only [odraw] at h
    cases he : sedges o.after.toList i B 0 with
    | none => rw [he] at h; simp at h
    | some mm =>
      rw [he] at h
      simp only at h
      generalize hb1 : slots D mm o.op.operands.toList = b1 at h
      generalize hb2 : (match o.guard with | some (j, _) => tb mm j | none => true) = b2 at h
      generalize hb3 : (match loudOp E o.op, last with | true, some l => tb mm l | _, _ => true) = b3 at h
      cases b1 <;> cases b2 <;> cases b3 <;> first | (simp at h; done) | skip
      cases hw : owant ops a o with
      | none => rw [hw] at h; simp at h
      | some w =>
        rw [hw] at h
        simp only at h
        cases hs : ostep E C ask id n0 o i a σ w with
        | none => rw [hs] at h; simp at h
        | some p =>
          obtain ⟨⟨v, σ1⟩, l1⟩ := p
          rw [hs] at h
          simp only at h
          cases hp : a.put o.dst v with
          | none => rw [hp] at h; simp at h
          | some a' =>
            rw [hp] at h
            simp only at h
            obtain ⟨a0', hp0, ha'⟩ := ha.put hp
            cases hr : odraw E C ask id ops n0 D l (i + 1) (B.set bits i mm) (match loudOp E o.op with | false => last | true => some i) a' σ1 with
            | none => rw [hr] at h; simp at h
            | some q =>
              obtain ⟨⟨L1, a2, σ2⟩, l2⟩ := q
              rw [hr] at h
              simp only [Option.some.injEq, Prod.mk.injEq] at h
              obtain ⟨⟨rfl, rfl, rfl⟩, rfl⟩ := h
              obtain ⟨k1, k2⟩ := all_append hm
              obtain ⟨g1, g2, g3⟩ := ostep_sound hs k1 ha hw
              obtain ⟨L0, b0, g4, g5, g6⟩ := ih hr k2 ha'
              refine ⟨⟨o, i, mm, a0, σ, v⟩ :: L0, b0, by rw [sdraw_cons he hb1 hb2 hb3]; simp only [g1, hp0, g4], g5, .cons ⟨rfl, rfl, rfl, rfl, rfl, ha, ⟨w, hw⟩, fun hh => ?_, fun hh hf => ?_⟩ g6⟩
              · rw [hw] at hh; exact g2 (Option.some.inj hh)
              · rw [hw] at hh; exact ⟨σ1, g3 (Option.some.inj hh) hf⟩

theorem smods_eq {ops : Array Oper} {n : Nat} {σ : SW} {L0 L : List SRec} (h : F2 (RecR E C ops) L0 L) : smods E n σ L0 = smods E n σ L := by
  induction h with
  | nil => rfl
  | cons hx _ ih =>
    simp only [smods, hx.o, hx.i, hx.m, hx.σ, ih]

theorem quiet_nofloat {op : Op} (h : quietOp E op = true) : floatOp op = false := by
  cases op <;> first | rfl | (simp [quietOp] at h; done)

theorem pagain_sound {n : Nat} {x0 x : SRec} {all0 : List (Nat × Nat × SW)} (hi : x0.i = x.i) (hmm : x0.m = x.m) (hv : x0.v = x.v) (ho : ∀ σp, sop E C x0.o x0.s σp = sop E C x.o x.s σp) (hf : veq 40 x.v x.v = true) :
    ∀ {l : List (Nat × Nat × SW)}, all (pagain E C n x all0 l) → sagain E C n x0 all0 l = true := by
  intro l
  induction l with
  | nil => intro _; rfl
  | cons p l ih =>
    intro h
    obtain ⟨p, q, σ⟩ := p
    simp only [pagain] at h
    simp only [sagain, hi, hmm, hv]
    cases hs : sfree n x.i x.m p all0 with
    | false => rw [hs] at h; exact ih h
    | true =>
      rw [hs] at h
      obtain ⟨h1, h2⟩ := all_cons h
      simp only [ho σ, h1, hf]
      exact ih h2

theorem sagain_any {n : Nat} {x0 x : SRec} {all0 : List (Nat × Nat × SW)} (hv : x0.v = x.v) (ho : ∀ σp, sop E C x0.o x0.s σp = some (x.v, σp)) (hf : veq 40 x.v x.v = true) :
    ∀ {l : List (Nat × Nat × SW)}, sagain E C n x0 all0 l = true := by
  intro l
  induction l with
  | nil => rfl
  | cons p l ih =>
    obtain ⟨p, q, σ⟩ := p
    simp only [sagain, hv]
    cases hs : sfree n x0.i x0.m p all0 with
    | false => exact ih
    | true => simp only [ho σ, hf]; exact ih

theorem pagains_sound {ops : Array Oper} {n : Nat} {al : List (Nat × Nat × SW)} {L0 L : List SRec} (h : F2 (RecR E C ops) L0 L) : ∀ {m : List Prop}, pagains E C ops n al L = some m → all m → sagains E C ops n al L0 = true := by
  induction h with
  | nil => intro _ _ _; rfl
  | @cons x0 x L0 L hx _ ih =>
    intro m h hm
    simp only [pagains] at h
    cases hr : pagains E C ops n al L with
    | none => rw [hr] at h; simp at h
    | some l =>
      rw [hr] at h
      simp only at h
      obtain ⟨w, hw⟩ := hx.want
      have hw0 : swanted ops x0.s x0.o = w := by rw [hx.o]; exact owant_eq hx.has hw
      simp only [sagains, hw0]
      rw [hx.o]
      cases hq : quietOp E x.o.op with
      | false =>
        rw [hq] at h
        simp only [Option.some.injEq] at h
        subst h
        exact ih hr hm
      | true =>
        rw [hq, hw] at h
        cases w with
        | false =>
          simp only [Option.some.injEq] at h
          subst h
          exact ih hr hm
        | true =>
          simp only at h ⊢
          have hk := hx.known hw
          have hc : ∀ σp, sop E C x0.o x0.s σp = sop E C x.o x.s σp := fun σp => by rw [hx.o]; exact sop_congr (hx.has.eval hk)
          cases hv : vfit 40 x.v with
          | false => rw [hv] at h; simp at h
          | true =>
            rw [hv] at h
            have hv' := vfit_veq _ _ hv
            cases hmem : memOp x.o.op with
            | false =>
              rw [hmem] at h
              simp only [Option.some.injEq] at h
              subst h
              obtain ⟨σ1, h1⟩ := hx.ran hw (quiet_nofloat hq)
              have h2 : ∀ σp, sop E C x0.o x0.s σp = some (x.v, σp) := fun σp => by rw [hc]; exact sop_any hq hmem h1 σp
              rw [sagain_any hx.v h2 hv']
              exact ih hr hm
            | true =>
              rw [hmem] at h
              simp only [Option.some.injEq] at h
              subst h
              obtain ⟨k1, k2⟩ := all_append hm
              rw [pagain_sound hx.i hx.m hx.v hc hv' k1]
              exact ih hr k2

/-- A region that draws, run asking, is run so. -/
theorem oregion_sound {ask : Ask} {id : Nat} {ops : Array Oper} {a b : SAct} {σ σ' : SW} {m : List Prop} (h : oregion E C ask id ops a σ = some ((b, σ'), m)) (hm : all m) {a0 : SAct} (ha : Has a0 a) :
    ∃ b0, sregion E C ops true a0 σ = some (.normal, b0, σ') ∧ Has b0 b := by
  unfold oregion at h
  unfold sregion
  simp only
  cases hD : sdsts ops.toList 0 .nil with
  | none => rw [hD] at h; simp at h
  | some D =>
    rw [hD] at h
    simp only at h ⊢
    cases hd : odraw E C ask id ops σ.n D ops.toList 0 .nil none a ⟨σ.h, σ.n + ops.size, σ.b⟩ with
    | none => rw [hd] at h; simp at h
    | some p =>
      obtain ⟨⟨L, a', σ1⟩, l⟩ := p
      rw [hd] at h
      simp only at h
      cases hp : pagains E C ops ops.size (smods E ops.size σ1 L) L with
      | none => rw [hp] at h; simp at h
      | some l' =>
        rw [hp] at h
        simp only [Option.some.injEq, Prod.mk.injEq] at h
        obtain ⟨⟨rfl, rfl⟩, rfl⟩ := h
        obtain ⟨k1, k2⟩ := all_append hm
        obtain ⟨L0, b0, g1, g2, g3⟩ := odraw_sound hd k1 ha
        refine ⟨b0, ?_, g2⟩
        rw [g1]
        simp only
        rw [smods_eq g3, pagains_sound g3 hp k2]
end
end Go.Sh

namespace Go.Sh
open Go

abbrev ORes := Option ((SExit × SAct × SW) × List Prop)

noncomputable def othen (f : SAct → SW → ORes) : ORes → ORes
  | some ((.normal, a, σ), l) => oadd l (f a σ)
  | r => r

noncomputable def olive (a : SAct) : List (Nat × Value) → List Prop
  | [] => []
  | (i, v) :: r => (a.t.get i = some v) :: olive a r

def LoopGoes (E : Env) (C : SCall) (K : Nat) (rd : Option Nat) (c : Code) (L : LAsk) (n : Nat) (marks : List Nat) (σ : SW) : Prop :=
  ∀ a0, Has a0 ⟨ofList L.livein, n, marks⟩ → ∃ b0, sloop K (scode E C K rd c none) a0 σ = some (L.e, b0, L.σ) ∧ Has b0 ⟨ofList L.liveout, n, marks⟩

noncomputable def ofold (K : Nat) (f : SAct → SW → ORes) : SAct → SW → ORes :=
  Nat.rec (motive := fun _ => SAct → SW → ORes) (fun _ _ => none) (fun _ ih a σ => othen ih (f a σ)) K

noncomputable def ocode (E : Env) (C : SCall) (K : Nat) (rd : Option Nat) (ask : Ask) : Code → SAct → SW → ORes
  | .skip, a, σ => some ((.normal, a, σ), [])
  | .region id ops draw, a, σ => match draw with
    | true => match oregion E C ask id ops a σ with
      | some ((a', σ'), l) => some ((.normal, a', σ'), l)
      | none => none
    | false => match oops E C ask id ops ops.toList 0 a σ with
      | some ((a', σ'), l) => some ((.normal, a', σ'), l)
      | none => none
  | .seq x y, a, σ => othen (ocode E C K rd ask y) (ocode E C K rd ask x a σ)
  | .cond c x y, a, σ => match oknown a.t [c] with
    | false => none
    | true => match a.eval c with
      | .bool true => ocode E C K rd ask x a σ
      | .bool false => ocode E C K rd ask y a σ
      | _ => none
  | .block id c, a, σ => match ocode E C K rd ask c a σ with
    | some ((.exit id', a', σ'), l) => match Nat.beq id' id with
      | true => some ((.normal, a', σ'), l)
      | false => some ((.exit id', a', σ'), l)
    | r => r
  | .loop c, a, σ => match findLoop ask.loops (firstId c) with
    | some L => some ((L.e, ⟨ofList L.liveout, a.n, a.marks⟩, L.σ), olive a L.livein ++ [LoopGoes E C K rd c L a.n a.marks σ])
    | none => ofold K (ocode E C K rd ask c) a σ
  | .exit id, a, σ => some ((.exit id, a, σ), [])
  | .goto l, a, σ => some ((.goto l, a, σ), [])
  | .ret, a, σ => some ((.ret, a, σ), [])
  | .label _, a, σ => some ((.normal, a, σ), [])
  | .scope c, a, σ => match K with
    | 0 => none
    | _ + 1 => match ocode E C K rd ask c a σ with
      | some ((.goto l, a', σ'), m) => match hasLabel c l with
        | true => none
        | false => some ((.goto l, a', σ'), m)
      | r => r
  | _, _, _ => none



theorem olive_has {a : SAct} : ∀ {l : List (Nat × Value)}, all (olive a l) → ∀ x ∈ l, a.t.get x.1 = some x.2 := by
  intro l
  induction l with
  | nil => intro _ x hx; cases hx
  | cons y l ih =>
    intro h x hx
    obtain ⟨i, v⟩ := y
    obtain ⟨h1, h2⟩ := all_cons h
    rcases List.mem_cons.1 hx with rfl | hx
    · exact h1
    · exact ih h2 x hx

theorem ofList_get {l : List (Nat × Value)} : ∀ {t0 : T Value} {i : Nat} {v : Value}, (l.foldl (fun (t : T Value) x => t.set bits x.1 x.2) t0).get i = some v → t0.get i = some v ∨ (i, v) ∈ l := by
  induction l with
  | nil => intro t0 i v h; exact .inl h
  | cons y l ih =>
    intro t0 i v h
    obtain ⟨j, u⟩ := y
    rcases ih h with h | h
    · by_cases hi : i = j
      · subst hi
        have := T.get_set_same h
        subst this
        exact .inr (by simp)
      · rw [T.get_set_ne hi] at h
        exact .inl h
    · exact .inr (List.mem_cons_of_mem _ h)

/-- What is told of the loop's head holds. -/
theorem Has.live {a0 a : SAct} (h : Has a0 a) {l : List (Nat × Value)} (hl : all (olive a l)) : Has a0 ⟨ofList l, a.n, a.marks⟩ := by
  refine ⟨h.n, h.marks, h.room, fun i v hv => ?_⟩
  rcases ofList_get (t0 := .nil) hv with h1 | h1
  · rw [T.get_nil] at h1; cases h1
  · exact h.get i v (olive_has hl (i, v) h1)

theorem othen_some {f : SAct → SW → ORes} {r : ORes} {x : SExit × SAct × SW} {m : List Prop} (h : othen f r = some (x, m)) :
    (∃ a σ l m', r = some ((.normal, a, σ), l) ∧ f a σ = some (x, m') ∧ m = l ++ m') ∨ (r = some (x, m) ∧ ∀ a σ, x ≠ (.normal, a, σ)) := by
  cases r with
  | none => simp [othen] at h
  | some p =>
    obtain ⟨⟨e, a, σ⟩, l⟩ := p
    cases e <;> simp only [othen] at h
    · obtain ⟨m', h1, h2⟩ := oadd_some h
      exact .inl ⟨a, σ, l, m', rfl, h1, h2⟩
    all_goals
      refine .inr ⟨h, fun a' σ' e => ?_⟩
      subst e
      simp at h

/-- A code that is run asking is run so, if all that was told is so. -/
theorem ocode_sound {E : Env} {C : SCall} {K : Nat} {rd : Option Nat} {ask : Ask} : ∀ (c : Code) {a : SAct} {σ : SW} {e : SExit} {b : SAct} {σ' : SW} {m : List Prop}, ocode E C K rd ask c a σ = some ((e, b, σ'), m) → all m →
    ∀ {a0}, Has a0 a → ∃ b0, scode E C K rd c none a0 σ = some (e, b0, σ') ∧ Has b0 b := by
  intro c
  induction c with
  | skip =>
    intro a σ e b σ' m h _ a0 ha
    simp only [ocode, Option.some.injEq, Prod.mk.injEq] at h
    obtain ⟨⟨rfl, rfl, rfl⟩, _⟩ := h
    exact ⟨a0, rfl, ha⟩
  | region id ops draw =>
    intro a σ e b σ' m h hm a0 ha
    cases draw with
    | true =>
      simp only [ocode] at h
      cases ho : oregion E C ask id ops a σ with
      | none => rw [ho] at h; simp at h
      | some p =>
        obtain ⟨⟨a', σ1⟩, l⟩ := p
        rw [ho] at h
        simp only [Option.some.injEq, Prod.mk.injEq] at h
        obtain ⟨⟨rfl, rfl, rfl⟩, rfl⟩ := h
        obtain ⟨b0, h1, h2⟩ := oregion_sound ho hm ha
        exact ⟨b0, by simp only [scode]; exact h1, h2⟩
    | false =>
      simp only [ocode] at h
      cases ho : oops E C ask id ops ops.toList 0 a σ with
      | none => rw [ho] at h; simp at h
      | some p =>
        obtain ⟨⟨a', σ1⟩, l⟩ := p
        rw [ho] at h
        simp only [Option.some.injEq, Prod.mk.injEq] at h
        obtain ⟨⟨rfl, rfl, rfl⟩, rfl⟩ := h
        obtain ⟨b0, h1, h2⟩ := oops_sound ho hm ha
        exact ⟨b0, by simp only [scode, sregion, h1], h2⟩
  | seq x y ix iy =>
    intro a σ e b σ' m h hm a0 ha
    simp only [ocode] at h
    rcases othen_some h with ⟨a1, σ1, l, m', h1, h2, rfl⟩ | ⟨h1, h2⟩
    · obtain ⟨k1, k2⟩ := all_append hm
      obtain ⟨b1, g1, g2⟩ := ix h1 k1 ha
      obtain ⟨b2, g3, g4⟩ := iy h2 k2 g2
      exact ⟨b2, by simp only [scode, g1, g3], g4⟩
    · obtain ⟨b1, g1, g2⟩ := ix h1 hm ha
      refine ⟨b1, ?_, g2⟩
      simp only [scode, g1]
      cases e <;> first | rfl | exact absurd rfl (h2 b σ')
  | cond c x y ix iy =>
    intro a σ e b σ' m h hm a0 ha
    simp only [ocode] at h
    cases hk : oknown a.t [c] with
    | false => rw [hk] at h; simp at h
    | true =>
      rw [hk] at h
      have hv := ha.eval hk c (by simp)
      simp only at h
      simp only [scode, hv]
      generalize a.eval c = v at h
      cases v <;> first | (simp at h; done) | skip
      rename_i bb
      cases bb
      · exact iy h hm ha
      · exact ix h hm ha
  | block id c ih =>
    intro a σ e b σ' m h hm a0 ha
    simp only [ocode] at h
    cases ho : ocode E C K rd ask c a σ with
    | none => rw [ho] at h; simp at h
    | some p =>
      obtain ⟨⟨e1, a1, σ1⟩, l⟩ := p
      rw [ho] at h
      cases e1 with
      | exit id' =>
        simp only at h
        cases hb : Nat.beq id' id with
        | true =>
          rw [hb] at h
          simp only [Option.some.injEq, Prod.mk.injEq] at h
          obtain ⟨⟨rfl, rfl, rfl⟩, rfl⟩ := h
          obtain ⟨b0, h1, h2⟩ := ih ho hm ha
          exact ⟨b0, by simp only [scode, h1, hb, cond_true], h2⟩
        | false =>
          rw [hb] at h
          simp only [Option.some.injEq, Prod.mk.injEq] at h
          obtain ⟨⟨rfl, rfl, rfl⟩, rfl⟩ := h
          obtain ⟨b0, h1, h2⟩ := ih ho hm ha
          exact ⟨b0, by simp only [scode, h1, hb, cond_false], h2⟩
      | _ =>
        simp only [Option.some.injEq, Prod.mk.injEq] at h
        obtain ⟨⟨rfl, rfl, rfl⟩, rfl⟩ := h
        obtain ⟨b0, h1, h2⟩ := ih ho hm ha
        exact ⟨b0, by simp only [scode, h1], h2⟩
  | loop c ih =>
    intro a σ e b σ' m h hm a0 ha
    simp only [ocode] at h
    cases hf : findLoop ask.loops (firstId c) with
    | some L =>
      rw [hf] at h
      simp only [Option.some.injEq, Prod.mk.injEq] at h
      obtain ⟨⟨rfl, rfl, rfl⟩, rfl⟩ := h
      obtain ⟨k1, k2⟩ := all_append hm
      obtain ⟨b0, h1, h2⟩ := k2 a0 (ha.live k1)
      exact ⟨b0, by simp only [scode]; exact h1, h2⟩
    | none =>
      rw [hf] at h
      simp only at h
      have key : ∀ (k : Nat) {a : SAct} {σ : SW} {e : SExit} {b : SAct} {σ' : SW} {m : List Prop}, ofold k (ocode E C K rd ask c) a σ = some ((e, b, σ'), m) → all m → ∀ {a0}, Has a0 a →
          ∃ b0, sloop k (scode E C K rd c none) a0 σ = some (e, b0, σ') ∧ Has b0 b := by
        intro k
        induction k with
        | zero => intro a σ e b σ' m h; cases h
        | succ k ihk =>
          intro a σ e b σ' m h hm a0 ha
          have h : othen (ofold k (ocode E C K rd ask c)) (ocode E C K rd ask c a σ) = some ((e, b, σ'), m) := h
          rcases othen_some h with ⟨a1, σ1, l, m', h1, h2, rfl⟩ | ⟨h1, h2⟩
          · obtain ⟨k1, k2⟩ := all_append hm
            obtain ⟨b1, g1, g2⟩ := ih h1 k1 ha
            obtain ⟨b2, g3, g4⟩ := ihk h2 k2 g2
            exact ⟨b2, by simp only [sloop, g1, g3], g4⟩
          · obtain ⟨b1, g1, g2⟩ := ih h1 hm ha
            refine ⟨b1, ?_, g2⟩
            simp only [sloop, g1]
            cases e <;> first | rfl | exact absurd rfl (h2 b σ')
      obtain ⟨b0, h1, h2⟩ := key K h hm ha
      exact ⟨b0, by simp only [scode]; exact h1, h2⟩
  | rangeFunc f ps x y _ _ => intro a σ e b σ' m h; simp [ocode] at h
  | exit id =>
    intro a σ e b σ' m h _ a0 ha
    simp only [ocode, Option.some.injEq, Prod.mk.injEq] at h
    obtain ⟨⟨rfl, rfl, rfl⟩, _⟩ := h
    exact ⟨a0, rfl, ha⟩
  | scope c ih =>
    intro a σ e b σ' m h hm a0 ha
    cases K with
    | zero => simp [ocode] at h
    | succ k =>
      simp only [ocode] at h
      cases ho : ocode E C (k + 1) rd ask c a σ with
      | none => rw [ho] at h; simp at h
      | some p =>
        obtain ⟨⟨e1, a1, σ1⟩, l⟩ := p
        rw [ho] at h
        cases e1 with
        | goto g =>
          simp only at h
          cases hb : hasLabel c g with
          | true => rw [hb] at h; simp at h
          | false =>
            rw [hb] at h
            simp only [Option.some.injEq, Prod.mk.injEq] at h
            obtain ⟨⟨rfl, rfl, rfl⟩, rfl⟩ := h
            obtain ⟨b0, h1, h2⟩ := ih ho hm ha
            exact ⟨b0, by simp only [scode, sscope, h1, hb], h2⟩
        | _ =>
          simp only [Option.some.injEq, Prod.mk.injEq] at h
          obtain ⟨⟨rfl, rfl, rfl⟩, rfl⟩ := h
          obtain ⟨b0, h1, h2⟩ := ih ho hm ha
          exact ⟨b0, by simp only [scode, sscope, h1], h2⟩
  | label l =>
    intro a σ e b σ' m h _ a0 ha
    simp only [ocode, Option.some.injEq, Prod.mk.injEq] at h
    obtain ⟨⟨rfl, rfl, rfl⟩, _⟩ := h
    exact ⟨a0, rfl, ha⟩
  | goto l =>
    intro a σ e b σ' m h _ a0 ha
    simp only [ocode, Option.some.injEq, Prod.mk.injEq] at h
    obtain ⟨⟨rfl, rfl, rfl⟩, _⟩ := h
    exact ⟨a0, rfl, ha⟩
  | ret =>
    intro a σ e b σ' m h _ a0 ha
    simp only [ocode, Option.some.injEq, Prod.mk.injEq] at h
    obtain ⟨⟨rfl, rfl, rfl⟩, _⟩ := h
    exact ⟨a0, rfl, ha⟩
  | refuse w => intro a σ e b σ' m h; simp [ocode] at h


noncomputable def oresult (a : SAct) : List ResultVar → Bool
  | [] => true
  | .tmp t :: r => match a.t.get t with
    | some _ => oresult a r
    | none => false
  | .cell x _ :: r => match a.t.get x with
    | some _ => oresult a r
    | none => false

theorem sresults_congr {E : Env} {a0 a : SAct} {σ : SW} (h : Has a0 a) : ∀ {l : List ResultVar}, oresult a l = true → sresults E a0 σ l = sresults E a σ l := by
  intro l
  induction l with
  | nil => intro _; rfl
  | cons x l ih =>
    intro hk
    cases x with
    | tmp t =>
      simp only [oresult] at hk
      cases hg : a.t.get t with
      | none => rw [hg] at hk; simp at hk
      | some v =>
        rw [hg] at hk
        simp only [sresults, hg, h.get t v hg, ih hk]
    | cell x t =>
      simp only [oresult] at hk
      cases hg : a.t.get x with
      | none => rw [hg] at hk; simp at hk
      | some v =>
        rw [hg] at hk
        simp only [sresults, hg, h.get x v hg, ih hk]

noncomputable def senter (E : Env) (C : SCall) (K : Nat) (fn : Func) (args : Array Value) (σ : SW) : Option (Value × SW) :=
  match fn.body, Nat.ble args.toList.length fn.ntmps && Nat.blt (fn.ntmps + 1) 16777216 with
  | some c, true => match scode E C K none c none ⟨ofArgs args.toList 0 .nil, fn.ntmps, []⟩ σ with
    | some (.normal, a, σ') | some (.ret, a, σ') => sleave E fn a σ'
    | _ => none
  | _, _ => none

theorem scall_enter {E : Env} {K d : Nat} {f : FuncId} {fn : Func} (h : sguarded (Nat.blt f E.nf) (E.P.funcs[f]?) = some fn) (args : Array Value) (σ : SW) : scall E K (d + 1) (.fn f args) σ = senter E (scall E K d) K fn args σ := by
  simp only [scall, h]
  rfl

noncomputable def oenter (E : Env) (C : SCall) (K : Nat) (ask : Ask) (fn : Func) (args : Array Value) (σ : SW) : Option ((Value × SW) × List Prop) :=
  match fn.body, Nat.ble args.toList.length fn.ntmps && Nat.blt (fn.ntmps + 1) 16777216 with
  | some c, true => match ocode E C K none ask c ⟨ofArgs args.toList 0 .nil, fn.ntmps, []⟩ σ with
    | some ((.normal, a, σ'), l) | some ((.ret, a, σ'), l) => match oresult a fn.results.toList with
      | true => match sleave E fn a σ' with
        | some r => some (r, l)
        | none => none
      | false => none
    | _ => none
  | _, _ => none

/-- A call that is run asking is run so, if all that was told is so. -/
theorem oenter_sound {E : Env} {C : SCall} {K : Nat} {ask : Ask} {fn : Func} {args : Array Value} {σ : SW} {r : Value × SW} {m : List Prop} (h : oenter E C K ask fn args σ = some (r, m)) (hm : all m) :
    senter E C K fn args σ = some r := by
  unfold oenter at h
  unfold senter
  cases hb : fn.body with
  | none => rw [hb] at h; simp at h
  | some c =>
    rw [hb] at h
    cases hc : (Nat.ble args.toList.length fn.ntmps && Nat.blt (fn.ntmps + 1) 16777216) with
    | false => rw [hc] at h; simp at h
    | true =>
      rw [hc] at h
      simp only at h ⊢
      have hroom : fn.ntmps + 1 < 2 ^ bits := by
        simp only [Bool.and_eq_true] at hc
        have : fn.ntmps + 1 < 16777216 := by simpa [Nat.blt_eq] using hc.2
        simpa [bits] using this
      have hrefl : Has (⟨ofArgs args.toList 0 .nil, fn.ntmps, []⟩ : SAct) ⟨ofArgs args.toList 0 .nil, fn.ntmps, []⟩ := ⟨rfl, rfl, hroom, fun _ _ h => h⟩
      cases ho : ocode E C K none ask c ⟨ofArgs args.toList 0 .nil, fn.ntmps, []⟩ σ with
      | none => rw [ho] at h; simp at h
      | some p =>
        obtain ⟨⟨e, a, σ'⟩, l⟩ := p
        rw [ho] at h
        have ext : (match oresult a fn.results.toList with | true => (match sleave E fn a σ' with | some r => some (r, l) | none => none) | false => none) = some (r, m) → oresult a fn.results.toList = true ∧ sleave E fn a σ' = some r ∧ l = m := by
          intro h
          cases hr : oresult a fn.results.toList with
          | false => rw [hr] at h; simp at h
          | true =>
            rw [hr] at h
            simp only at h
            cases hs : sleave E fn a σ' with
            | none => rw [hs] at h; simp at h
            | some r' =>
              rw [hs] at h
              simp only [Option.some.injEq, Prod.mk.injEq] at h
              exact ⟨rfl, by rw [h.1], h.2⟩
        have fin : ∀ b0, Has b0 a → oresult a fn.results.toList = true → sleave E fn a σ' = some r → sleave E fn b0 σ' = some r := by
          intro b0 hb0 hr hs
          rw [← hs]
          unfold sleave
          rw [hb0.marks]
          cases sunmark a.marks σ' with
          | none => rfl
          | some σ2 => simp only [sresults_congr hb0 hr]
        cases e <;> simp only [reduceCtorEq] at h
        all_goals
          obtain ⟨k1, k2, rfl⟩ := ext h
          obtain ⟨b0, h1, h2⟩ := ocode_sound c ho hm hrefl
          rw [h1]
          exact fin b0 h2 k1 k2
end Go.Sh

namespace Go.Sh
open Go Go.RowKit

/-! ## Calls of which one more is known -/
open Classical in
/-- The calls C, and the call of g without arguments in the laid world, which gives v and leaves what was there. -/
noncomputable def over (C : SCall) (l : List SObj) (g : FuncId) (v : Value) : SCall := fun e σ => match e with
  | .fn f args => if f = g ∧ args = #[] ∧ σ = σof l then some (v, σ) else C (.fn f args) σ
  | .round s args => C (.round s args) σ

theorem over_hit (C : SCall) (l : List SObj) (g : FuncId) (v : Value) : over C l g v (.fn g #[]) (σof l) = some (v, σof l) := if_pos ⟨rfl, rfl, rfl⟩
theorem over_miss {C : SCall} {l : List SObj} {g : FuncId} {v : Value} {f : FuncId} {args : Array Value} {σ : SW} (h : f ≠ g) : over C l g v (.fn f args) σ = C (.fn f args) σ := if_neg fun h' => h h'.1

theorem Rel.below {κ : K} {σ : SW} {w w' : World} (h : Rel κ σ w) (hB : Below w.heap.size w w') : Rel κ σ w' where
  base := h.base
  old := h.old
  dom := fun s bi hk => ⟨(h.dom s bi hk).1, Nat.lt_of_lt_of_le (h.dom s bi hk).2 hB.size⟩
  d0 := h.d0
  cont := fun s bi o hk hg => by rw [hB.block bi.r (h.dom s bi hk).2]; exact h.cont s bi o hk hg
  inj := h.inj
  top := h.top

theorem Post.below {κ : K} {σ : SW} {w w' : World} (hB : Below w.heap.size w w') : Post κ κ σ σ w w' where
  le := K.le_refl κ
  base := rfl
  news := fun s bi h h' => by rw [h] at h'; cases h'
  n := Nat.le_refl _
  others := fun _ _ _ => rfl
  size := hB.size
  os := hB.os
  tape := hB.tape
  output := hB.output
  keep := fun r hr _ => hB.block r hr
  vers := fun s o' v' _ h1 h2 => ⟨o', v', h1, h2, Nat.le_refl _⟩
  reuse := fun s bi h h' => by rw [h] at h'; cases h'

theorem over_sim {E : Env} (G : Good E) {C : SCall} (hC : CSim E C) {l : List SObj} (hb : l.length + 1 < 2 ^ bits) {g : FuncId} {v : Value} {k d : Nat} (hv : ∀ κ, V κ v v) (hu : ∀ κ u, V κ u v → u = v)
    (h : ran l v (fcall E k d (.fn g #[]) (σof l)) = true) : CSim E (over C l g v) := by
  refine ⟨fun κ σ w f args args' v' σ' hK hR ha hs => ?_, fun κ σ w s l args args' v' σ' hK hR hl ha hs => hC.round κ σ w s l args args' v' σ' hK hR hl ha hs⟩
  by_cases hh : f = g ∧ args' = #[] ∧ σ = σof l
  · obtain ⟨rfl, rfl, rfl⟩ := hh
    rw [over_hit] at hs
    simp only [Option.some.injEq, Prod.mk.injEq] at hs
    obtain ⟨rfl, rfl⟩ := hs
    obtain ⟨σ1, h1, _⟩ := ran_spec h
    rw [fcall_eq] at h1
    refine ⟨((shadow_sim G k d).fn κ (σof l) w f args #[] v σ1 hK hR ha h1).1, CallsIn.mono (closed_calls G hK hb hR ha h) ?_⟩
    rintro e w' ⟨⟨u, κ', he, hvv, _⟩, hB⟩
    have := hu κ' u hvv
    subst this
    exact ⟨_, κ, he, hv κ, hR.below hB, Post.below hB⟩
  · have hm : over C l g v (.fn f args') σ = C (.fn f args') σ := if_neg hh
    rw [hm] at hs
    exact hC.fn κ σ w f args args' v' σ' hK hR ha hs

/-- A function whose run over calls that are met is known is met. -/
theorem enter_sim {E : Env} (G : Good E) {C : SCall} (ih : CSim E C) {k : Nat} {f : FuncId} {fn : Func} (hfg : sguarded (Nat.blt f E.nf) (E.P.funcs[f]?) = some fn) {κ : K} {σ σ' : SW} {w : World} {args args' : Array Value} {v' : Value}
    (hK : GK E κ) (hR : Rel κ σ w) (ha : VA κ args args') (h : senter E C k fn args' σ = some (v', σ')) : CallsIn Fence.wide 0 E.P f args w (Got κ σ w v' σ') := by
  have hDr := draw_sim G ih
  obtain ⟨hnf, hf⟩ := of_guard_lt hfg
  unfold senter at h
  cases hb : fn.body with
  | none => rw [hb] at h; simp at h
  | some c =>
    rw [hb] at h
    cases hcond : (Nat.ble args'.toList.length fn.ntmps && Nat.blt (fn.ntmps + 1) 16777216) with
    | false => rw [hcond] at h; simp at h
    | true =>
      rw [hcond] at h
      simp only at h
      simp only [Bool.and_eq_true] at hcond
      have hc1 := Nat.le_of_ble_eq_true hcond.1
      have hc2 : fn.ntmps + 1 < 2 ^ bits := by
        have : fn.ntmps + 1 < 16777216 := by simpa [Nat.blt_eq] using hcond.2
        simpa [bits] using this
      cases hs : scode E (C) k none c none ⟨ofArgs args'.toList 0 .nil, fn.ntmps, []⟩ σ with
      | none => rw [hs] at h; simp at h
      | some x =>
        obtain ⟨e, s1, σ1⟩ := x
        rw [hs] at h
        have hfol := (code_follows G ih hDr k none none c).1 κ σ w _ _ e s1 σ1 ⟨hK, trivial⟩ (hK f fn c hnf hf hb) hR (acr_start ha hc1 hc2) hs
        refine callsIn_of_wp_marks hf hb trivial (wpIn_mono hfol fun x a1 w1 hx => ?_)
        obtain ⟨he, κ1, ha1, hR1, hP1⟩ := hx
        have fin : sleave E fn s1 σ1 = some (v', σ') → LeavesInM Fence.wide 0 E.P fn a1.tmps (Got κ σ w v' σ') a1.defers .returning w1 := by
          intro h
          unfold sleave at h
          cases hu : sunmark s1.marks σ1 with
          | none => rw [hu] at h; simp at h
          | some σ2 =>
            rw [hu] at h
            simp only at h
            refine r_leaves (κ := κ1) ha1.df hR1 hu fun w2 hR2 hP2 => ?_
            have hh : (match sresults E s1 σ2 fn.results.toList with | some [v] => some v | some vs => some (.tuple vs.toArray) | none => none) = some v' ∧ σ2 = σ' := by
              cases hs : sresults E s1 σ2 fn.results.toList with
              | none => rw [hs] at h; simp at h
              | some vs =>
                rw [hs] at h
                match vs, h with
                | [], h => simp only [Option.some.injEq, Prod.mk.injEq] at h; exact ⟨by rw [← h.1], h.2⟩
                | [v], h => simp only [Option.some.injEq, Prod.mk.injEq] at h; exact ⟨by rw [← h.1], h.2⟩
                | v :: u :: r, h => simp only [Option.some.injEq, Prod.mk.injEq] at h; exact ⟨by rw [← h.1], h.2⟩
            obtain ⟨hh, rfl⟩ := hh
            obtain ⟨v, hv, hr⟩ := run_results (E := E) hR2 ha1 hh
            exact ⟨v, hv, v, κ1, rfl, hr, hR2, hR.post_trans hR1 hP1 hP2⟩
        cases e <;> simp only at he h <;> subst he
        · exact fin h
        · simp at h
        · simp at h
        · exact fin h

theorem entered {E : Env} (G : Good E) {C : SCall} (hC : CSim E C) {k : Nat} {f : FuncId} {fn : Func} (hfg : sguarded (Nat.blt f E.nf) (E.P.funcs[f]?) = some fn) {κ : K} (hgk : GK E κ) {l : List SObj} (hb : l.length + 1 < 2 ^ bits) {w : World} (hR : Rel κ (σof l) w) {args args' : Array Value} (ha : VA κ args args') {v : Value} {σ' : SW}
    (h : senter E C k fn args' (σof l) = some (v, σ')) (hst : stays σ' l 0 = true) :
    CallsIn Fence.wide 0 E.P f args w fun e w' => (∃ u κ', e = .returned u ∧ V κ' u v ∧ K.le κ κ') ∧ Below w.heap.size w w' := by
  refine CallsIn.mono (enter_sim G hC hfg hgk hR ha h) ?_
  rintro e w' ⟨u, κ', he, hv, hR', hP⟩
  refine ⟨⟨u, κ', he, hv, hP.le⟩, hP.os, hP.tape, hP.output, hP.size, fun r hr => hP.keep r hr fun s bi o x hk hg _ hx => ?_⟩
  rw [(σof_get l hb).2.2] at hg
  have := stays_spec hst s o x hg hx
  simpa using this
end Go.Sh

namespace Go.Sh
open Go

/-! ## Loops told -/
noncomputable def obody (E : Env) (C : SCall) (K : Nat) (rd : Option Nat) (ask : Ask) (c : Code) (n : Nat) (marks : List Nat) (li lo : List (Nat × Value)) (σ : SW) : Option ((SExit × SW) × List Prop) :=
  match ocode E C K rd ask c ⟨ofList li, n, marks⟩ σ with
  | some ((e, b, σ'), m) => some ((e, σ'), (b.n = n) :: (b.marks = marks) :: (olive b lo ++ m))
  | none => none

theorem obody_sound {E : Env} {C : SCall} {K : Nat} {rd : Option Nat} {ask : Ask} {c : Code} {n : Nat} {marks : List Nat} {li lo : List (Nat × Value)} {σ σ' : SW} {e : SExit} {m : List Prop}
    (h : obody E C K rd ask c n marks li lo σ = some ((e, σ'), m)) (hm : all m) : ∀ a0, Has a0 ⟨ofList li, n, marks⟩ → ∃ b0, scode E C K rd c none a0 σ = some (e, b0, σ') ∧ Has b0 ⟨ofList lo, n, marks⟩ := by
  intro a0 ha
  unfold obody at h
  cases ho : ocode E C K rd ask c ⟨ofList li, n, marks⟩ σ with
  | none => rw [ho] at h; simp at h
  | some p =>
    obtain ⟨⟨e1, b, σ1⟩, m1⟩ := p
    rw [ho] at h
    simp only [Option.some.injEq, Prod.mk.injEq] at h
    obtain ⟨⟨rfl, rfl⟩, rfl⟩ := h
    obtain ⟨h1, hm⟩ := all_cons hm
    obtain ⟨h2, hm⟩ := all_cons hm
    obtain ⟨h3, h4⟩ := all_append hm
    obtain ⟨b0, g1, g2⟩ := ocode_sound c ho h4 ha
    refine ⟨b0, g1, ?_⟩
    have := g2.live h3
    rw [h1, h2] at this
    exact this

/-- A loop of N whole rounds, and one that ends it. -/
theorem loop_goes {E : Env} {C : SCall} {K : Nat} {rd : Option Nat} {c : Code} {n : Nat} {marks : List Nat} {e : SExit} {out : List (Nat × Value)} {σe : SW} (I : Nat → List (Nat × Value)) (σs : Nat → SW) (N : Nat)
    (hstep : ∀ i, i < N → ∀ a0, Has a0 ⟨ofList (I i), n, marks⟩ → ∃ b0, scode E C K rd c none a0 (σs i) = some (.normal, b0, σs (i + 1)) ∧ Has b0 ⟨ofList (I (i + 1)), n, marks⟩)
    (hlast : ∀ a0, Has a0 ⟨ofList (I N), n, marks⟩ → ∃ b0, scode E C K rd c none a0 (σs N) = some (e, b0, σe) ∧ Has b0 ⟨ofList out, n, marks⟩)
    (he : e ≠ .normal) (hN : N < K) : LoopGoes E C K rd c ⟨I 0, e, out, σe⟩ n marks (σs 0) := by
  have key : ∀ (k i K' : Nat), i + k = N → k < K' → ∀ a0, Has a0 ⟨ofList (I i), n, marks⟩ → ∃ b0, sloop K' (scode E C K rd c none) a0 (σs i) = some (e, b0, σe) ∧ Has b0 ⟨ofList out, n, marks⟩ := by
    intro k
    induction k with
    | zero =>
      intro i K' hi hk a0 ha
      obtain rfl : i = N := by omega
      obtain ⟨b0, h1, h2⟩ := hlast a0 ha
      refine ⟨b0, ?_, h2⟩
      cases K' with
      | zero => omega
      | succ K' =>
        simp only [sloop, h1]
        cases e <;> first | rfl | exact absurd rfl he
    | succ k ih =>
      intro i K' hi hk a0 ha
      obtain ⟨b0, h1, h2⟩ := hstep i (by omega) a0 ha
      cases K' with
      | zero => omega
      | succ K' =>
        obtain ⟨c0, h3, h4⟩ := ih (i + 1) K' (by omega) (by omega) b0 h2
        exact ⟨c0, by simp only [sloop, h1, h3], h4⟩
  intro a0 ha
  exact key N 0 K (by omega) hN a0 ha

/-- The loop of a function's code whose body's first region is id. -/
noncomputable def loopAt (id : Nat) : Code → Option Code
  | .loop c => match Nat.beq (firstId c) id with
    | true => some c
    | false => loopAt id c
  | .seq x y => match loopAt id x with
    | some c => some c
    | none => loopAt id y
  | .cond _ x y => match loopAt id x with
    | some c => some c
    | none => loopAt id y
  | .block _ c => loopAt id c
  | .scope c => loopAt id c
  | _ => none

noncomputable def theLoop (fn : Func) (id : Nat) : Code := (fn.body.bind (loopAt id)).getD .skip
end Go.Sh
