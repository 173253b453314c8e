/- Regions that draw their order are followed by the program in whatever order is drawn. Conditions: as each theorem names them. -/
import Derived.Test.YtffdpbhkkflgnaaGreatDoorShE

namespace Go.Sh
open Go

section
variable {P : Program} {E : Env} {C : SCall} {σ σ' : SW} {v : Value}

theorem nm_run {α : Type} {Q : α → Prop} {t : Sem α} (h : NM P Q t) : ∀ {σ σ' : SW} {a : α}, srun P t σ = some (a, σ') → σ' = σ := by
  induction h with
  | pure h => intro σ σ' a hs; simp only [srun, Option.some.injEq, Prod.mk.injEq] at hs; exact hs.2.symm
  | program _ ih => intro σ σ' a hs; simp only [srun] at hs; exact ih hs
  | @choose q k _ ih =>
    intro σ σ' a hs
    simp only [srun] at hs
    cases hq : q.forced with
    | true => rw [hq] at hs; exact ih hs
    | false => rw [hq] at hs; simp at hs
  | mark _ ih => intro σ σ' a hs; simp only [srun] at hs; exact ih hs
  | fails hf => intro σ σ' a hs; rw [hf] at hs; cases hs

theorem sload_same {t : TypeId} {x : Value} (h : sload E t x σ = some (v, σ')) : σ' = σ := by
  unfold sload at h
  repeat' split at h
  all_goals first
    | (simp at h; done)
    | (simp only [Option.some.injEq, Prod.mk.injEq] at h; exact h.2.symm)

theorem sslice_same {t : TypeId} {x : Value} {lo hi mx : Option Value} (h : sslice E t x lo hi mx σ = some (v, σ')) : σ' = σ := by
  unfold sslice at h
  repeat' split at h
  all_goals first
    | (simp at h; done)
    | (generalize (mxok _ _ && _ && _ && _ && _) = b at h
       cases b <;> simp only [cond_true, cond_false, Option.some.injEq, Prod.mk.injEq, reduceCtorEq] at h
       exact h.2.symm)
    | (generalize (Nat.ble _ _ && Nat.ble _ _) = b at h
       cases b <;> simp only [cond_true, cond_false, Option.some.injEq, Prod.mk.injEq, reduceCtorEq] at h
       exact h.2.symm)

theorem slen_same {ts : Array TypeId} {args : Array Value} (h : slen E ts args σ = some (v, σ')) : σ' = σ := by
  unfold slen at h
  repeat' split at h
  all_goals first
    | (simp at h; done)
    | (simp only [Option.some.injEq, Prod.mk.injEq] at h; exact h.2.symm)

theorem sgen_same {o : Oper} {s : SAct} {Q : Next → Prop} (hn : NM E.P Q (execOp s.eval o)) (h : sgen E o s σ = some (v, σ')) : σ' = σ := by
  unfold sgen at h
  cases hr : srun E.P (execOp s.eval o) σ with
  | none => rw [hr] at h; simp at h
  | some x =>
    obtain ⟨n, σ1⟩ := x
    have e := nm_run hn hr
    subst e
    rw [hr] at h
    cases n <;> simp only [Option.some.injEq, Prod.mk.injEq, reduceCtorEq] at h <;> exact h.2.symm

theorem nm_value {t : Sem Value} {Q : Value → Prop} (h : NM P Q t) : NM P (fun _ => True) (do pure (Next.value (← t))) := nm_bind h fun _ _ => .pure trivial

theorem nm_unAny (op : UnOp) (x : Value) : NM P (fun _ => True) (Op.unary op x) := by
  unfold Op.unary
  cases op <;> cases x <;> first
    | exact nm_stuck
    | exact .pure trivial
    | exact .fails fun _ => rfl
    | (rename_i q; cases q <;> first | exact nm_stuck | exact .fails fun _ => rfl)

theorem sbinOp_same {o : Oper} {s : SAct} {op : BinOp} {t : TypeId} {x y : Operand} {ft : TypeId} (ho : o.op = .binOp op t x y ft) (h : sbinOp E o s op t x y σ = some (v, σ')) : σ' = σ := by
  have gen : ∀ k k' n n', s.eval x = .int k n → s.eval y = .int k' n' → sgen E o s σ = some (v, σ') → σ' = σ := by
    intro k k' n n' e1 e2 hg
    refine sgen_same (Q := fun _ => True) ?_ hg
    simp only [execOp, ho, e1, e2]
    exact nm_value (nm_bind nm_guard fun _ _ => nm_binInt _ _ _ _ _ _)
  unfold sbinOp at h
  split at h
  · split at h
    · simp only [Option.some.injEq, Prod.mk.injEq] at h; exact h.2.symm
    · simp at h
  · rename_i e1 e2
    split at h
    · simp only [Option.some.injEq, Prod.mk.injEq] at h; exact h.2.symm
    · exact gen _ _ _ _ e1 e2 h
  · simp at h
  · simp at h
  · repeat' split at h
    all_goals first
      | (simp at h; done)
      | (simp only [Option.some.injEq, Prod.mk.injEq] at h; exact h.2.symm)

theorem sop_quiet {o : Oper} {s : SAct} (hq : quietOp E o.op = true) (h : sop E C o s σ = some (v, σ')) : σ' = σ := by
  unfold sop at h
  cases ho : o.op <;> rw [ho] at h hq <;> simp only [quietOp, Bool.false_eq_true] at hq <;> simp only at h
  case load t x => exact sload_same h
  case slice t x lo hi mx => exact sslice_same h
  case binOp op t x y ft => exact sbinOp_same ho h
  case unOp op t x =>
    refine sgen_same (Q := fun _ => True) ?_ h
    simp only [execOp, ho]
    exact nm_value (nm_unAny _ _)
  case convert src dst x =>
    unfold intConv at hq
    cases h1 : E.P.underlying src with
    | none => rw [h1] at hq; simp at hq
    | some d1 =>
      rw [h1] at hq
      cases h2 : E.P.underlying dst with
      | none => rw [h2] at hq; cases d1 <;> simp at hq
      | some d2 =>
        rw [h2] at hq
        cases d1 <;> first | (simp at hq; done) | skip
        cases d2 <;> first | (simp at hq; done) | skip
        unfold sconvert at h
        rw [h1, h2] at h
        generalize s.eval x = y at h
        cases y <;> first
          | (simp at h; done)
          | (simp only [Option.some.injEq, Prod.mk.injEq] at h; exact h.2.symm)
  case pick c x y =>
    repeat' split at h
    all_goals first
      | (simp at h; done)
      | (simp only [Option.some.injEq, Prod.mk.injEq] at h; exact h.2.symm)
  case extract x i =>
    split at h
    · exact (skeep_some h).2
    · simp at h
  case makeFunc fn f c =>
    split at h
    · simp at h
    · simp only [Option.some.injEq, Prod.mk.injEq] at h; exact h.2.symm
  case call c =>
    cases hc : c.callee <;> rw [hc] at hq <;> first | (simp at hq; done) | skip
    rename_i b
    cases b <;> first | (simp at hq; done) | skip
    all_goals
      unfold scallOp at h
      rw [hc] at h
      simp only [sbuiltin] at h
    · exact slen_same h
    · repeat' split at h
      all_goals first
        | (simp at h; done)
        | (simp only [Option.some.injEq, Prod.mk.injEq] at h; exact h.2.symm)
    · repeat' split at h
      all_goals first
        | (simp at h; done)
        | (simp only [Option.some.injEq, Prod.mk.injEq] at h; exact h.2.symm)
  all_goals first
    | exact (skeep_some h).2
    | (simp only [Option.some.injEq, Prod.mk.injEq] at h; exact h.2.symm)
end

/-! ## Equal values -/
theorem fkbeq_eq {a b : FloatKind} (h : fkbeq a b = true) : a = b := by cases a <;> cases b <;> first | rfl | (simp [fkbeq] at h; done)
theorem fbeq_eq {a b : Fn} (h : fbeq a b = true) : a = b := by
  cases a <;> cases b <;> first | (simp [fbeq] at h; done) | (simp only [fbeq] at h; rw [Nat.eq_of_beq_eq_true h])
theorem abeq_eq {a b : Addr} (h : abeq a b = true) : a = b := by
  obtain ⟨b1, o1, s1⟩ := a
  obtain ⟨b2, o2, s2⟩ := b
  unfold abeq at h
  cases s1 <;> cases s2 <;> simp only [Bool.and_eq_true, Bool.false_eq_true] at h
  rw [Nat.eq_of_beq_eq_true h.1, Nat.eq_of_beq_eq_true h.2]
theorem obeq_eq {a b : Option Addr} (h : obeq abeq a b = true) : a = b := by
  cases a <;> cases b <;> simp only [obeq, Bool.false_eq_true] at h
  · rfl
  · rw [abeq_eq h]
theorem vsbeq_eq {q : Value → Value → Bool} (hq : ∀ a b, q a b = true → a = b) : ∀ {x y : List Value}, vsbeq q x y = true → x = y
  | [], [], _ => rfl
  | [], _ :: _, h => by simp [vsbeq] at h
  | _ :: _, [], h => by simp [vsbeq] at h
  | a :: x, b :: y, h => by
    simp only [vsbeq] at h
    cases hab : q a b with
    | false => rw [hab] at h; simp at h
    | true => rw [hab] at h; rw [hq a b hab, vsbeq_eq hq h]
theorem arr_eq {x y : Array Value} (h : x.toList = y.toList) : x = y := Array.ext' h
theorem veq_eq : ∀ (d : Nat) (a b : Value), veq d a b = true → a = b
  | 0, _, _, h => by simp [veq] at h
  | d + 1, a, b, h => by
    have ih := veq_eq d
    unfold veq at h
    split at h
    · have := beq_iff_eq.1 h; rw [this]
    · simp only [Bool.and_eq_true] at h; rw [kbeq_eq h.1]; have := h.2; rw [ibeq_eq] at this; simp at this; rw [this]
    · simp only [Bool.and_eq_true] at h; rw [fkbeq_eq h.1, Nat.eq_of_beq_eq_true h.2]
    · rename_i x y
      have e : x.data.toList = y.data.toList := by
        have := h
        rw [beqBytes_eq] at this
        simpa using this
      have : x = y := by
        cases x; cases y
        simp only at e
        rw [Array.ext' e]
      rw [this]
    · rw [obeq_eq h]
    · simp only [Bool.and_eq_true] at h; rw [obeq_eq h.1.1, Nat.eq_of_beq_eq_true h.1.2, Nat.eq_of_beq_eq_true h.2]
    · rfl
    · rfl
    · rfl
    · rw [Nat.eq_of_beq_eq_true h]
    · simp only [Bool.and_eq_true] at h; rw [Nat.eq_of_beq_eq_true h.1, ih _ _ h.2]
    · rw [arr_eq (vsbeq_eq ih h)]
    · rw [arr_eq (vsbeq_eq ih h)]
    · simp only [Bool.and_eq_true] at h; rw [fbeq_eq h.1.1, arr_eq (vsbeq_eq ih h.1.2), arr_eq (vsbeq_eq ih h.2)]
    · cases h
end Go.Sh

namespace Go.Sh
open Go

theorem tb_eq (m i : Nat) : tb m i = m.testBit i := by
  unfold tb
  rw [Nat.testBit_eq_decide_div_mod_eq]
  have e : Nat.land (Nat.shiftRight m i) 1 = m / 2 ^ i % 2 := by
    show (m >>> i) &&& 1 = _
    rw [Nat.and_one_is_mod, Nat.shiftRight_eq_div_pow]
  rw [e]
  cases hb : Nat.beq (m / 2 ^ i % 2) 1 with
  | true => have := Nat.eq_of_beq_eq_true hb; simp [this]
  | false => have := Nat.ne_of_beq_eq_false hb; simp [this]

theorem tb_step (m b e j : Nat) : tb (Nat.lor m (Nat.lor b (Nat.shiftLeft 1 e))) j = (tb m j || (tb b j || decide (j = e))) := by
  rw [tb_eq, tb_eq, tb_eq]
  show (m ||| (b ||| (1 <<< e))).testBit j = _
  rw [Nat.testBit_or, Nat.testBit_or, Nat.testBit_shiftLeft]
  congr 1
  congr 1
  by_cases h : j = e
  · subst h; simp
  · by_cases h2 : j ≥ e
    · have : j - e ≠ 0 := by omega
      simp [h2, h]
      rw [Bool.eq_false_iff]
      intro hh
      rw [Nat.testBit_one_eq_true_iff_self_eq_zero] at hh
      omega
    · simp [h2, h]

theorem tb_zero (j : Nat) : tb 0 j = false := by rw [tb_eq]; simp

theorem sedges_spec {i : Nat} {B : T Nat} : ∀ {l : List Edge} {m m' : Nat}, sedges l i B m = some m' →
    (∀ e ∈ l, Region.binds .any e = true → e.on < i) ∧ (∀ j, tb m' j = true → tb m j = true ∨ ∃ e ∈ l, Region.binds .any e = true ∧ ∃ b, B.get e.on = some b ∧ (j = e.on ∨ tb b j = true)) := by
  intro l
  induction l with
  | nil =>
    intro m m' h
    simp only [sedges, Option.some.injEq] at h
    subst h
    exact ⟨fun e he => (by cases he), fun j hj => .inl hj⟩
  | cons e l ih =>
    intro m m' h
    simp only [sedges] at h
    cases hb : Region.binds .any e with
    | false =>
      rw [hb] at h
      obtain ⟨h1, h2⟩ := ih h
      refine ⟨fun x hx hbx => ?_, fun j hj => ?_⟩
      · rcases List.mem_cons.1 hx with rfl | hx
        · rw [hb] at hbx; cases hbx
        · exact h1 x hx hbx
      · rcases h2 j hj with h | ⟨x, hx, h⟩
        · exact .inl h
        · exact .inr ⟨x, List.mem_cons_of_mem _ hx, h⟩
    | true =>
      rw [hb] at h
      simp only at h
      cases hlt : Nat.blt e.on i with
      | false => rw [hlt] at h; simp at h
      | true =>
        cases hg : B.get e.on with
        | none => rw [hlt, hg] at h; simp at h
        | some b =>
          rw [hlt, hg] at h
          simp only at h
          obtain ⟨h1, h2⟩ := ih h
          refine ⟨fun x hx hbx => ?_, fun j hj => ?_⟩
          · rcases List.mem_cons.1 hx with rfl | hx
            · simpa [Nat.blt_eq] using hlt
            · exact h1 x hx hbx
          · rcases h2 j hj with h | ⟨x, hx, h⟩
            · rw [tb_step] at h
              simp only [Bool.or_eq_true, decide_eq_true_eq] at h
              rcases h with h | h | h
              · exact .inl h
              · exact .inr ⟨e, by simp, hb, b, hg, .inr h⟩
              · exact .inr ⟨e, by simp, hb, b, hg, .inl h⟩
            · exact .inr ⟨x, List.mem_cons_of_mem _ hx, h⟩

theorem slots_spec {D : T Nat} {m : Nat} : ∀ {l : List Operand}, slots D m l = true → ∀ t, Operand.tmp t ∈ l → ∀ j, D.get t = some j → tb m j = true := by
  intro l
  induction l with
  | nil => intro _ t ht; cases ht
  | cons x l ih =>
    intro h t ht j hj
    cases x with
    | tmp u =>
      simp only [slots] at h
      cases hd : D.get u with
      | none =>
        rw [hd] at h
        rcases List.mem_cons.1 ht with e | ht
        · cases e; rw [hd] at hj; cases hj
        · exact ih h t ht j hj
      | some k =>
        rw [hd] at h
        simp only at h
        cases hk : tb m k with
        | false => rw [hk] at h; simp at h
        | true =>
          rw [hk] at h
          rcases List.mem_cons.1 ht with e | ht
          · cases e; rw [hd] at hj; cases hj; exact hk
          · exact ih h t ht j hj
    | _ =>
      simp only [slots] at h
      rcases List.mem_cons.1 ht with e | ht
      · cases e
      · exact ih h t ht j hj

def NQ (E : Env) (ops : Array Oper) (j : Nat) : Prop := ∃ o, ops[j]? = some o ∧ loudOp E o.op = true

/-- Operation i makes a new object in block n0 + i. -/
def FL (E : Env) (ops : Array Oper) (S : Nat → SAct) (n0 : Nat) (i : Nat) (v : Value) (so : SObj) : Prop :=
  ∃ o, ops[i]? = some o ∧ swanted ops (S i) o = true ∧ floatOp o.op = true ∧ sfloat E o.op (S i) (n0 + i) = some (v, so)

structure Facts (E : Env) (C : SCall) (ops : Array Oper) (n0 : Nat) (D : T Nat) (M : Nat → Nat) (S : Nat → SAct) (W : Nat → SW) (Vv : Nat → Value) (i : Nat) (o : Oper) : Prop where
  back : ∀ e ∈ o.after.toList, Region.binds .any e = true → e.on < i
  mask : ∀ j, tb (M i) j = true → j < i ∧ ∃ e ∈ o.after.toList, Region.binds .any e = true ∧ (j = e.on ∨ tb (M e.on) j = true)
  slot : ∀ t, Operand.tmp t ∈ o.op.operands.toList → ∀ j, D.get t = some j → tb (M i) j = true
  guard : ∀ j want, o.guard = some (j, want) → tb (M i) j = true
  chain : loudOp E o.op = true → ∀ l, l < i → NQ E ops l → (∀ j, l < j → j < i → ¬ NQ E ops j) → tb (M i) l = true
  step : (swanted ops (S i) o = false ∧ Vv i = undef ∧ W (i + 1) = W i) ∨ (swanted ops (S i) o = true ∧ floatOp o.op = false ∧ sop E C o (S i) (W i) = some (Vv i, W (i + 1))) ∨
    (swanted ops (S i) o = true ∧ floatOp o.op = true ∧ ∃ so, sfloat E o.op (S i) (n0 + i) = some (Vv i, so) ∧ W (i + 1) = (W i).setObj (n0 + i) so)
  put : (S i).put o.dst (Vv i) = some (S (i + 1))

def LastOK (E : Env) (ops : Array Oper) (i : Nat) : Option Nat → Prop
  | none => ∀ j, j < i → ¬ NQ E ops j
  | some l => l < i ∧ NQ E ops l ∧ ∀ j, l < j → j < i → ¬ NQ E ops j

theorem sdraw_length {E : Env} {C : SCall} {ops : Array Oper} {n0 : Nat} {D : T Nat} {s' : SAct} {σ' : SW} :
    ∀ (l : List Oper) (i : Nat) (B : T Nat) (last : Option Nat) (a : SAct) (σ : SW) (L : List SRec), sdraw E C ops n0 D l i B last a σ = some (L, s', σ') → L.length = l.length := by
  intro l
  induction l with
  | nil => intro i B last a σ L h; simp only [sdraw, Option.some.injEq, Prod.mk.injEq] at h; rw [← h.1]; rfl
  | cons o l ih =>
    intro i B last a σ L h
    simp only [sdraw] at h
    repeat' split at h
    all_goals first
      | (simp at h; done)
      | (rename_i hr
         simp only [Option.some.injEq, Prod.mk.injEq] at h
         rw [← h.1, List.length_cons, ih _ _ _ _ _ _ (h.2.1 ▸ h.2.2 ▸ hr)]; rfl)

theorem sdraw_spec {E : Env} {C : SCall} {ops : Array Oper} {n0 : Nat} {D : T Nat} {M : Nat → Nat} {S : Nat → SAct} {W : Nat → SW} {Vv : Nat → Value} {s' : SAct} {σ' : SW} :
    ∀ (l : List Oper) (i : Nat) (B : T Nat) (last : Option Nat) (a : SAct) (σ : SW) (L : List SRec), ops.toList.drop i = l → (∀ j b, B.get j = some b → M j = b ∧ j < i ∧ ∀ q, tb b q = true → q < j) → LastOK E ops i last →
      sdraw E C ops n0 D l i B last a σ = some (L, s', σ') → (∀ k x, L[k]? = some x → M (i + k) = x.m ∧ S (i + k) = x.s ∧ W (i + k) = x.σ ∧ Vv (i + k) = x.v) → S (i + l.length) = s' → W (i + l.length) = σ' →
      L.length = l.length ∧ S i = a ∧ W i = σ ∧ ∀ k o, l[k]? = some o → (∃ x, L[k]? = some x ∧ x.o = o ∧ x.i = i + k) ∧ Facts E C ops n0 D M S W Vv (i + k) o := by
  intro l
  induction l with
  | nil =>
    intro i B last a σ L hd hB hl h hL hS hW
    simp only [sdraw, Option.some.injEq, Prod.mk.injEq] at h
    obtain ⟨rfl, rfl, rfl⟩ := h
    exact ⟨rfl, hS, hW, fun k o hk => by simp at hk⟩
  | cons o l ih =>
    intro i B last a σ L hd hB hl h hL hS hW
    have hoi : ops[i]? = some o := by
      have : (ops.toList.drop i)[0]? = some o := by rw [hd]; rfl
      simpa using this
    have hrest : ops.toList.drop (i + 1) = l := by
      have := congrArg List.tail hd
      simpa [List.tail_drop] using this
    simp only [sdraw] at h
    cases he : sedges o.after.toList i B 0 with
    | none => rw [he] at h; simp at h
    | some m =>
      rw [he] at h
      simp only at h
      split at h
      case h_2 => simp at h
      case h_1 hg1 hg2 hg3 =>
      split at h
      case h_1 => simp at h
      case h_2 v σ1 hst =>
        cases hp : a.put o.dst v with
        | none => rw [hp] at h; simp at h
        | some a1 =>
          rw [hp] at h
          simp only at h
          split at h
          case h_1 => simp at h
          case h_2 L1 s2 σ2 hr =>
            simp only [Option.some.injEq, Prod.mk.injEq] at h
            obtain ⟨rfl, rfl, rfl⟩ := h
            obtain ⟨hback, hmask⟩ := sedges_spec he
            have h0 := hL 0 _ rfl
            simp only [Nat.add_zero] at h0
            obtain ⟨hM0, hS0, hW0, hV0⟩ := h0
            have hmask' : ∀ j, tb m j = true → j < i ∧ ∃ e ∈ o.after.toList, Region.binds .any e = true ∧ (j = e.on ∨ tb (M e.on) j = true) := by
              intro j hj
              rcases hmask j hj with h | ⟨e, hem, hbe, b, hgb, hjb⟩
              · rw [tb_zero] at h; cases h
              · obtain ⟨hMe, hei, hq⟩ := hB e.on b hgb
                refine ⟨?_, e, hem, hbe, ?_⟩
                · rcases hjb with rfl | hjb
                  · exact hei
                  · have := hq j hjb; omega
                · rw [hMe]; exact hjb
            have hlen : i + 1 + l.length = i + (l.length + 1) := by omega
            have hB' : ∀ j b, (B.set bits i m).get j = some b → M j = b ∧ j < i + 1 ∧ ∀ q, tb b q = true → q < j := by
              intro j b hj
              by_cases hji : j = i
              · subst hji
                have hj := T.get_set_same hj
                subst hj
                exact ⟨hM0, by omega, fun q hq => (hmask' q hq).1⟩
              · rw [T.get_set_ne hji] at hj
                obtain ⟨x1, x2, x3⟩ := hB j b hj
                exact ⟨x1, by omega, x3⟩
            have hl' : LastOK E ops (i + 1) (match loudOp E o.op with | false => last | true => some i) := by
              cases hq : loudOp E o.op with
              | true => exact ⟨by omega, ⟨o, hoi, hq⟩, fun j h1 h2 => by omega⟩
              | false =>
                have hnq : ¬ NQ E ops i := by
                  rintro ⟨o', ho', hq'⟩
                  rw [hoi] at ho'; cases ho'
                  rw [hq] at hq'; cases hq'
                cases last with
                | none =>
                  intro j hj
                  by_cases hji : j = i
                  · subst hji; exact hnq
                  · exact hl j (by omega)
                | some l0 =>
                  obtain ⟨x1, x2, x3⟩ := hl
                  refine ⟨by omega, x2, fun j h1 h2 => ?_⟩
                  by_cases hji : j = i
                  · subst hji; exact hnq
                  · exact x3 j h1 (by omega)
            obtain ⟨r1, r2, r3, r4⟩ := ih (i + 1) (B.set bits i m) _ a1 σ1 L1 hrest hB' hl' hr
              (fun k x hk => by have := hL (k + 1) x hk; rw [show i + 1 + k = i + (k + 1) by omega]; exact this) (by rw [hlen]; exact hS) (by rw [hlen]; exact hW)
            refine ⟨by simp [r1], hS0, hW0, fun k ok hk => ?_⟩
            cases k with
            | succ k =>
              have hk' : l[k]? = some ok := by simpa using hk
              have := r4 k ok hk'
              rw [show i + 1 + k = i + (k + 1) by omega] at this
              simpa using this
            | zero =>
              simp only [List.getElem?_cons_zero, Option.some.injEq] at hk
              subst hk
              refine ⟨⟨_, rfl, rfl, rfl⟩, ?_⟩
              simp only [Nat.add_zero]
              refine ⟨hback, ?_, ?_, ?_, ?_, ?_, ?_⟩
              · rw [hM0]; exact hmask'
              · rw [hM0]; exact slots_spec hg1
              · intro j want hgd
                rw [hgd] at hg2
                rw [hM0]; exact hg2
              · intro hq l0 hl0 hnq hbet
                rw [hq] at hg3
                rw [hM0]
                cases last with
                | none => exact absurd hnq (hl l0 hl0)
                | some l1 =>
                  obtain ⟨x1, x2, x3⟩ := hl
                  have : l1 = l0 := by
                    rcases Nat.lt_trichotomy l1 l0 with h | h | h
                    · exact absurd hnq (x3 l0 h hl0)
                    · exact h
                    · exact absurd x2 (hbet l1 h x1)
                  subst this
                  exact hg3
              · rw [hS0, hW0, hV0, r3]
                unfold sdstep at hst
                cases hw : swanted ops a o with
                | false =>
                  rw [hw] at hst
                  simp only [Option.some.injEq, Prod.mk.injEq] at hst
                  exact .inl ⟨rfl, hst.1.symm, hst.2.symm⟩
                | true =>
                  rw [hw] at hst
                  simp only at hst
                  cases hfl : floatOp o.op with
                  | false =>
                    rw [hfl] at hst
                    exact .inr (.inl ⟨rfl, rfl, hst⟩)
                  | true =>
                    rw [hfl] at hst
                    simp only at hst
                    cases hsf : sfloat E o.op a (n0 + i) with
                    | none => rw [hsf] at hst; simp at hst
                    | some x =>
                      obtain ⟨v1, so⟩ := x
                      rw [hsf] at hst
                      simp only [Option.some.injEq, Prod.mk.injEq] at hst
                      obtain ⟨rfl, rfl⟩ := hst
                      exact .inr (.inr ⟨rfl, rfl, so, rfl, rfl⟩)
              · rw [hS0, hV0, r2]; exact hp
end Go.Sh

namespace Go.Sh
open Go

def Dead (σ : SW) (s : Nat) : Prop := ∀ o, σ.get s = some o → ver o = none

/-- How the new objects of a region stand, when the shadow has come to operation q. -/
structure FInv (E : Env) (ops : Array Oper) (S : Nat → SAct) (n0 r0 : Nat) (κ : K) (σ : SW) (w : World) (done : Nat → Prop) (q : Nat) : Prop where
  base : σ.b ≤ n0
  room : ∀ i, i < ops.size → n0 + i < σ.n
  dead : ∀ i v so, FL E ops S n0 i v so → q ≤ i → Dead σ (n0 + i)
  un : ∀ i v so, FL E ops S n0 i v so → ¬ done i → κ (n0 + i) = none ∧ (q ≤ i → σ.get (n0 + i) = none)
  late : ∀ i v so, FL E ops S n0 i v so → ¬ done i → i < q → ∀ o, σ.get (n0 + i) = some o → o = so
  early : ∀ i v so, FL E ops S n0 i v so → done i → ∃ bi, κ (n0 + i) = some bi ∧ r0 ≤ bi.r ∧ bi.r < w.heap.size ∧
    (q ≤ i → OR κ bi so w.heap[bi.r]? ∧ ∀ s b, s ≠ n0 + i → κ s = some b → b.r = bi.r → Dead σ s)
  apart : ∀ i v so j v' so' bi bj, FL E ops S n0 i v so → FL E ops S n0 j v' so' → i ≠ j → κ (n0 + i) = some bi → κ (n0 + j) = some bj → bi.r ≠ bj.r

section
variable {E : Env} {ops : Array Oper} {S : Nat → SAct} {n0 r0 : Nat} {κ κ2 κ0 : K} {σ σ2 σ0 : SW} {w w2 w0 : World} {done done' : Nat → Prop} {q : Nat}

theorem FL.lt {i : Nat} {v : Value} {so : SObj} (h : FL E ops S n0 i v so) : i < ops.size := by
  obtain ⟨o, ho, _⟩ := h
  exact (Array.getElem?_eq_some_iff.1 ho).1

theorem FL.same {i : Nat} {v v' : Value} {so so' : SObj} (h : FL E ops S n0 i v so) (h' : FL E ops S n0 i v' so') : v = v' ∧ so = so' := by
  obtain ⟨o, ho, _, _, h1⟩ := h
  obtain ⟨o', ho', _, _, h2⟩ := h'
  rw [ho] at ho'; cases ho'
  rw [h1] at h2
  simp only [Option.some.injEq, Prod.mk.injEq] at h2
  exact h2

theorem FInv.step [DecidablePred done] (hF : FInv E ops S n0 r0 κ σ w done q) (hR : Rel κ σ w) (hP : Post κ κ2 σ σ2 w w2) : FInv E ops S n0 r0 κ2 σ2 w2 done q := by
  have hun : ∀ i v so, FL E ops S n0 i v so → ¬ done i → κ2 (n0 + i) = none ∧ σ2.get (n0 + i) = σ.get (n0 + i) := by
    intro i v so hf hd
    have hk := (hF.un i v so hf hd).1
    have hlt := hF.room i hf.lt
    refine ⟨?_, hP.others _ hlt hk⟩
    cases hk2 : κ2 (n0 + i) with
    | none => rfl
    | some b => have := hP.news _ _ hk hk2; omega
  refine ⟨by rw [hP.base]; exact hF.base, fun i hi => Nat.lt_of_lt_of_le (hF.room i hi) hP.n, fun i v so hf hq => hP.dead (hF.room i hf.lt) (hF.dead i v so hf hq),
    fun i v so hf hd => ⟨(hun i v so hf hd).1, fun hq => by rw [(hun i v so hf hd).2]; exact (hF.un i v so hf hd).2 hq⟩, fun i v so hf hd hq => by rw [(hun i v so hf hd).2]; exact hF.late i v so hf hd hq, ?_, ?_⟩
  · intro i v so hf hd
    obtain ⟨bi, h1, h2, h3, h4⟩ := hF.early i v so hf hd
    refine ⟨bi, hP.le _ _ h1, h2, Nat.lt_of_lt_of_le h3 hP.size, fun hq => ?_⟩
    obtain ⟨h5, h6⟩ := h4 hq
    have hdead := hF.dead i v so hf hq
    have hsame : w2.heap[bi.r]? = w.heap[bi.r]? := hP.keep bi.r h3 fun s b o u hk hg hb hv => by
      by_cases hs : s = n0 + i
      · subst hs; rw [hdead o hg] at hv; cases hv
      · rw [h6 s b hs hk hb o hg] at hv; cases hv
    refine ⟨by rw [hsame]; exact h5.mono hP.le, fun s b hs hk hb => ?_⟩
    cases hk1 : κ s with
    | some b1 =>
      have := hP.le s b1 hk1
      rw [hk] at this; cases this
      exact hP.dead (hR.dom s b hk1).1 (h6 s b hs hk1 hb)
    | none =>
      rcases hP.reuse s b hk1 hk (by rw [hb]; exact h3) with hx | ⟨s0, b0, o0, v0, e1, e2, e3, e4, _⟩
      · exact hx
      · exfalso
        by_cases hs0 : s0 = n0 + i
        · subst hs0; rw [hdead o0 e2] at e3; cases e3
        · rw [h6 s0 b0 hs0 e1 (e4.trans hb) o0 e2] at e3; cases e3
  · intro i v so j v' so' bi bj hi hj hij h1 h2
    have back : ∀ i v so b, FL E ops S n0 i v so → κ2 (n0 + i) = some b → κ (n0 + i) = some b := by
      intro i v so b hf hk
      by_cases hd : done i
      · obtain ⟨b', h', _⟩ := hF.early i v so hf hd
        have := hP.le _ _ h'
        rw [hk] at this; cases this; exact h'
      · rw [(hun i v so hf hd).1] at hk; cases hk
    exact hF.apart i v so j v' so' bi bj hi hj hij (back i v so bi hi h1) (back j v' so' bj hj h2)

theorem FInv.skip (hF : FInv E ops S n0 r0 κ σ w done q) (hq : ∀ v so, ¬ FL E ops S n0 q v so) : FInv E ops S n0 r0 κ σ w done (q + 1) where
  base := hF.base
  room := hF.room
  dead := fun i v so hf h => hF.dead i v so hf (by omega)
  un := fun i v so hf hd => ⟨(hF.un i v so hf hd).1, fun h => (hF.un i v so hf hd).2 (by omega)⟩
  late := fun i v so hf hd h => hF.late i v so hf hd (by
    have : i ≠ q := fun e => hq v so (e ▸ hf)
    omega)
  early := fun i v so hf hd => by
    obtain ⟨bi, h1, h2, h3, h4⟩ := hF.early i v so hf hd
    exact ⟨bi, h1, h2, h3, fun h => h4 (by omega)⟩
  apart := hF.apart

theorem FInv.done_iff (hF : FInv E ops S n0 r0 κ σ w done q) (hd : ∀ i v so, FL E ops S n0 i v so → (done' i ↔ done i)) : FInv E ops S n0 r0 κ σ w done' q where
  base := hF.base
  room := hF.room
  dead := hF.dead
  un := fun i v so hf h => hF.un i v so hf fun h' => h ((hd i v so hf).2 h')
  late := fun i v so hf h => hF.late i v so hf fun h' => h ((hd i v so hf).2 h')
  early := fun i v so hf h => hF.early i v so hf ((hd i v so hf).1 h)
  apart := hF.apart

theorem FInv.come [DecidablePred done] (hF : FInv E ops S n0 w0.heap.size κ σ w done q) (hn0 : σ0.n = n0) (hR : Rel κ σ w) (hP : Post κ0 κ σ0 σ w0 w) {i : Nat} {v : Value} {so : SObj} (hi : FL E ops S n0 i v so) (hnd : ¬ done i)
    {R : Obj} {n : Nat} (hh : w2.heap = (w.alloc R).heap) (hos : w2.os = w.os) (ht : w2.tape = w.tape) (hout : w2.output = w.output)
    (hO : OR (κ.add (n0 + i) ⟨w.heap.size, 0, n⟩) ⟨w.heap.size, 0, n⟩ so (some R)) (hdone : ∀ j, done' j ↔ j = i ∨ done j) :
    Rel (κ.add (n0 + i) ⟨w.heap.size, 0, n⟩) σ w2 ∧ Post κ0 (κ.add (n0 + i) ⟨w.heap.size, 0, n⟩) σ0 σ w0 w2 ∧ FInv E ops S n0 w0.heap.size (κ.add (n0 + i) ⟨w.heap.size, 0, n⟩) σ w2 done' q := by
  obtain ⟨hk, hgn⟩ := hF.un i v so hi hnd
  have hle : K.le κ (κ.add (n0 + i) ⟨w.heap.size, 0, n⟩) := K.le_add hk
  have hroom := hF.room i hi.lt
  have hsz : w2.heap.size = w.heap.size + 1 := by rw [hh]; exact heap_alloc_size _ _
  have hold : ∀ {r : Nat}, r < w.heap.size → w2.heap[r]? = w.heap[r]? := fun h => by rw [hh]; exact heap_alloc_old _ _ h
  have hnew : w2.heap[w.heap.size]? = some R := by rw [hh]; exact heap_alloc_new _ _
  have hkey : ∀ x b, κ.add (n0 + i) ⟨w.heap.size, 0, n⟩ x = some b → (x = n0 + i ∧ b = ⟨w.heap.size, 0, n⟩) ∨ (x ≠ n0 + i ∧ κ x = some b) := by
    intro x b h
    by_cases hx : x = n0 + i
    · subst hx; rw [K.add_same] at h; cases h; exact .inl ⟨rfl, rfl⟩
    · rw [K.add_ne hx] at h; exact .inr ⟨hx, h⟩
  refine ⟨⟨hR.base, hR.old, fun x b h => ?_, fun x b h hxb => ?_, fun x b ox h g => ?_, fun s1 s2 b1 b2 o1 o2 k1 k2 g1 g2 l1 l2 hor hrr => ?_, hR.top⟩, ?_, ?_⟩
  · rw [hsz]
    rcases hkey x b h with ⟨rfl, rfl⟩ | ⟨_, h⟩
    · exact ⟨hroom, Nat.lt_succ_self _⟩
    · have := hR.dom x b h; omega
  · rcases hkey x b h with ⟨rfl, rfl⟩ | ⟨_, h⟩
    · rfl
    · exact hR.d0 x b h hxb
  · rcases hkey x b h with ⟨rfl, rfl⟩ | ⟨_, h⟩
    · rw [hnew]
      by_cases hq : i < q
      · rw [hF.late i v so hi hnd hq ox g]; exact hO
      · rw [hgn (by omega)] at g; cases g
    · rw [hold (hR.dom x b h).2]
      exact (hR.cont x b ox h g).mono hle
  · rcases hkey s1 b1 k1 with ⟨e1, f1⟩ | ⟨h1, k1⟩ <;> rcases hkey s2 b2 k2 with ⟨e2, f2⟩ | ⟨h2, k2⟩
    · rw [e1, e2]
    · have := (hR.dom s2 b2 k2).2; rw [f1] at hrr; simp only at hrr; omega
    · have := (hR.dom s1 b1 k1).2; rw [f2] at hrr; simp only at hrr; omega
    · exact hR.inj s1 s2 b1 b2 o1 o2 k1 k2 g1 g2 l1 l2 hor hrr
  · exact {
      le := K.le_trans hP.le hle
      base := hP.base
      news := fun x b h h' => by
        rcases hkey x b h' with ⟨rfl, _⟩ | ⟨_, h2⟩
        · omega
        · exact hP.news x b h h2
      n := hP.n
      others := hP.others
      size := by have := hP.size; omega
      os := hos.trans hP.os
      tape := ht.trans hP.tape
      output := hout.trans hP.output
      keep := fun r hr hall => by
        have := hP.size
        rw [hold (by omega)]
        exact hP.keep r hr hall
      vers := hP.vers
      reuse := fun x b h h' hb => by
        rcases hkey x b h' with ⟨_, rfl⟩ | ⟨_, h2⟩
        · have := hP.size; simp only at hb; omega
        · exact hP.reuse x b h h2 hb }
  · refine ⟨hF.base, hF.room, hF.dead, fun j v' so' hf hd => ?_, fun j v' so' hf hd => hF.late j v' so' hf fun h => hd ((hdone j).2 (.inr h)), fun j v' so' hf hd => ?_, fun j v1 so1 l v2 so2 bj bl hj hl hjl k1 k2 => ?_⟩
    · have hji : j ≠ i := fun e => hd ((hdone j).2 (.inl e))
      have hnj : ¬ done j := fun h => hd ((hdone j).2 (.inr h))
      obtain ⟨h1, h2⟩ := hF.un j v' so' hf hnj
      refine ⟨?_, h2⟩
      rw [K.add_ne (by omega)]
      exact h1
    · by_cases hji : j = i
      · subst hji
        obtain ⟨rfl, rfl⟩ := hi.same hf
        refine ⟨⟨w.heap.size, 0, n⟩, K.add_same _ _ _, hP.size, by rw [hsz]; exact Nat.lt_succ_self _, fun _ => ⟨by rw [hnew]; exact hO, fun s b hs hks hb => ?_⟩⟩
        rcases hkey s b hks with ⟨e, _⟩ | ⟨_, h2⟩
        · exact absurd e hs
        · have := (hR.dom s b h2).2; simp only at hb; omega
      · have hdj : done j := ((hdone j).1 hd).resolve_left hji
        obtain ⟨bj, h1, h2, h3, h4⟩ := hF.early j v' so' hf hdj
        refine ⟨bj, by rw [K.add_ne (by omega)]; exact h1, h2, by omega, fun hq => ?_⟩
        obtain ⟨h5, h6⟩ := h4 hq
        refine ⟨by rw [hold h3]; exact h5.mono hle, fun s b hs hks hb => ?_⟩
        rcases hkey s b hks with ⟨_, rfl⟩ | ⟨_, h⟩
        · simp only at hb; omega
        · exact h6 s b hs h hb
    · rcases hkey _ _ k1 with ⟨e1, f1⟩ | ⟨h1, k1⟩ <;> rcases hkey _ _ k2 with ⟨e2, f2⟩ | ⟨h2, k2⟩
      · omega
      · have := (hR.dom _ bl k2).2; rw [f1]; simp only; omega
      · have := (hR.dom _ bj k1).2; rw [f2]; simp only; omega
      · exact hF.apart j v1 so1 l v2 so2 bj bl hj hl hjl k1 k2

theorem OR.not_spent {κ : K} {bi : BI} {o : SObj} {v : Nat} {real : Option Obj} (h : OR κ bi o real) (hv : ver o = some v) : real ≠ some (.deferred none) := by
  rintro rfl
  cases o with
  | cells c e x f vr => obtain ⟨_, _, h1, _⟩ := h; cases h1
  | iter s p vr => obtain ⟨h1, _⟩ := h; cases h1
  | map es c vr => obtain ⟨_, h1, _⟩ := h; cases h1
  | loop => obtain ⟨_, h1, _⟩ := h; cases h1
  | deferred vr => cases h
  | spent => cases hv
  | dead => cases hv

theorem sfloat_ver {op : Op} {a : SAct} {b : Nat} {v : Value} {so : SObj} (h : sfloat E op a b = some (v, so)) : ver so = some 0 ∧ live so = true := by
  unfold sfloat at h
  split at h
  · unfold smake at h
    repeat' split at h
    all_goals first
      | (cases h; done)
      | (obtain ⟨_, h⟩ := of_guard h
         cases h; done)
      | (obtain ⟨_, h⟩ := of_guard h
         generalize (_ && _ && _) = c at h
         cases c <;> simp only [cond_true, cond_false, Option.some.injEq, Prod.mk.injEq, reduceCtorEq] at h
         rw [← h.2]; exact ⟨rfl, rfl⟩)
  · unfold sbuildSlice at h
    repeat' split at h
    all_goals first
      | (cases h; done)
      | (obtain ⟨_, h⟩ := of_guard h
         simp only [reduceCtorEq] at h; done)
      | (obtain ⟨_, h⟩ := of_guard h
         simp only [Option.some.injEq, Prod.mk.injEq] at h
         rw [← h.2]; exact ⟨rfl, rfl⟩)
  · unfold smakeMap at h
    split at h
    all_goals first
      | (simp only [Option.some.injEq, Prod.mk.injEq] at h; rw [← h.2]; exact ⟨rfl, rfl⟩)
      | (cases h; done)
  · unfold salloc at h
    obtain ⟨_, h⟩ := of_guard h
    split at h
    · split at h
      · simp only [Option.some.injEq, Prod.mk.injEq] at h
        rw [← h.2]; exact ⟨rfl, rfl⟩
      · cases h
    · cases h
  · simp only [sbox, Option.some.injEq, Prod.mk.injEq] at h
    rw [← h.2]; exact ⟨rfl, rfl⟩
  · cases h

theorem FL.ver {i : Nat} {v : Value} {so : SObj} (h : FL E ops S n0 i v so) : Sh.ver so = some 0 ∧ live so = true := by
  obtain ⟨o, _, _, _, h⟩ := h
  exact sfloat_ver h

/-- The shadow comes to a new object. -/
theorem FInv.pass [DecidablePred done] (hF : FInv E ops S n0 w0.heap.size κ σ w done q) (hn0 : σ0.n = n0) (hd0 : ∀ s bi, κ0 s = some bi → s < σ0.n) (hR : Rel κ σ w) (hP : Post κ0 κ σ0 σ w0 w) {v : Value} {so : SObj} (hq : FL E ops S n0 q v so) :
    Rel κ (σ.setObj (n0 + q) so) w ∧ Post κ0 κ σ0 (σ.setObj (n0 + q) so) w0 w ∧ FInv E ops S n0 w0.heap.size κ (σ.setObj (n0 + q) so) w done (q + 1) := by
  have hroom := hF.room q hq.lt
  obtain ⟨hv0, hl0⟩ := hq.ver
  have hget : ∀ x ox, (σ.setObj (n0 + q) so).get x = some ox → (x = n0 + q ∧ ox = so) ∨ (x ≠ n0 + q ∧ σ.get x = some ox) := by
    intro x ox g
    by_cases hx : x = n0 + q
    · subst hx; exact .inl ⟨rfl, SW.get_setObj_same g⟩
    · rw [SW.get_setObj_ne hx] at g; exact .inr ⟨hx, g⟩
  -- where it has come already
  have hcome : ∀ bi, κ (n0 + q) = some bi → w0.heap.size ≤ bi.r ∧ OR κ bi so w.heap[bi.r]? ∧ ∀ s b, s ≠ n0 + q → κ s = some b → b.r = bi.r → Dead σ s := by
    intro bi hk
    by_cases hd : done q
    · obtain ⟨b', h1, h2, _, h4⟩ := hF.early q v so hq hd
      rw [hk] at h1; cases h1
      exact ⟨h2, h4 (Nat.le_refl _)⟩
    · rw [(hF.un q v so hq hd).1] at hk; cases hk
  have hinj : ∀ bi s b o, κ (n0 + q) = some bi → s ≠ n0 + q → κ s = some b → b.r = bi.r → σ.get s = some o → live o = true → False := by
    intro bi s b o hk hs hks hb hg hl
    obtain ⟨_, h2, h3⟩ := hcome bi hk
    have hn := h3 s b hs hks hb o hg
    have hc := hR.cont s b o hks hg
    rw [hb] at hc
    cases o <;> first | (simp [Sh.ver] at hn; done) | (simp [live] at hl; done) | skip
    exact h2.not_spent hv0 hc
  refine ⟨⟨hR.base, fun x ox hx gx lx => ?_, hR.dom, hR.d0, fun x b ox h g => ?_, fun s1 s2 b1 b2 o1 o2 k1 k2 g1 g2 l1 l2 hor hrr => ?_, fun x hx => ?_⟩, ?_, ?_⟩
  · have hx : x < σ.b := hx
    rcases hget x ox gx with ⟨rfl, _⟩ | ⟨_, g⟩
    · have := hF.base; omega
    · exact hR.old x ox hx g lx
  · rcases hget x ox g with ⟨rfl, rfl⟩ | ⟨_, g⟩
    · exact (hcome b h).2.1
    · exact hR.cont x b ox h g
  · rcases hget s1 o1 g1 with ⟨e1, _⟩ | ⟨n1, h1⟩ <;> rcases hget s2 o2 g2 with ⟨e2, _⟩ | ⟨n2, h2⟩
    · rw [e1, e2]
    · exact (hinj b1 s2 b2 o2 (e1 ▸ k1) n2 k2 hrr.symm h2 l2).elim
    · exact (hinj b2 s1 b1 o1 (e2 ▸ k2) n1 k1 hrr h1 l1).elim
    · exact hR.inj s1 s2 b1 b2 o1 o2 k1 k2 h1 h2 l1 l2 hor hrr
  · have hx : σ.n ≤ x := hx
    rw [SW.get_setObj_ne (by omega)]
    exact hR.top x hx
  · exact {
      le := hP.le
      base := hP.base
      news := hP.news
      n := hP.n
      others := fun s hs hk => by rw [SW.get_setObj_ne (by omega)]; exact hP.others s hs hk
      size := hP.size
      os := hP.os
      tape := hP.tape
      output := hP.output
      keep := fun r hr hall => hP.keep r hr fun s bi o v hk hg hb hv => by
        have := hd0 s bi hk
        have h := hall s bi o v hk hg hb hv
        rw [SW.get_setObj_ne (by omega)] at h
        exact h
      vers := fun s o' v' hs g hv => by
        rw [SW.get_setObj_ne (by omega)] at g
        exact hP.vers s o' v' hs g hv
      reuse := fun s bi h h' hb => by
        by_cases hs : s = n0 + q
        · subst hs
          have := (hcome bi h').1
          omega
        · rcases hP.reuse s bi h h' hb with hx | ⟨s0, b0, o0, v0, e1, e2, e3, e4, e5⟩
          · exact .inl fun o ho => hx o (by rw [SW.get_setObj_ne hs] at ho; exact ho)
          · have := hd0 s0 b0 e1
            exact .inr ⟨s0, b0, o0, v0, e1, e2, e3, e4, fun o ho => e5 o (by rw [SW.get_setObj_ne (by omega)] at ho; exact ho)⟩ }
  · have hne : ∀ i, i ≠ q → (σ.setObj (n0 + q) so).get (n0 + i) = σ.get (n0 + i) := fun i hi => SW.get_setObj_ne (by omega)
    refine ⟨hF.base, hF.room, fun i v' so' hf h => ?_, fun i v' so' hf hd => ⟨(hF.un i v' so' hf hd).1, fun h => ?_⟩, fun i v' so' hf hd h o ho => ?_, fun i v' so' hf hd => ?_, hF.apart⟩
    · intro o ho
      rw [hne i (by omega)] at ho
      exact hF.dead i v' so' hf (by omega) o ho
    · rw [hne i (by omega)]
      exact (hF.un i v' so' hf hd).2 (by omega)
    · by_cases hi : i = q
      · subst hi
        obtain ⟨_, rfl⟩ := hq.same hf
        exact SW.get_setObj_same ho
      · rw [hne i hi] at ho
        exact hF.late i v' so' hf hd (by omega) o ho
    · obtain ⟨bi, h1, h2, h3, h4⟩ := hF.early i v' so' hf hd
      refine ⟨bi, h1, h2, h3, fun h => ?_⟩
      obtain ⟨h5, h6⟩ := h4 (by omega)
      refine ⟨h5, fun s b hs hks hb => ?_⟩
      by_cases hsq : s = n0 + q
      · subst hsq
        exact absurd hb.symm (hF.apart i v' so' q v so bi b hf hq (by omega) h1 hks)
      · intro o ho
        rw [SW.get_setObj_ne hsq] at ho
        exact h6 s b hs hks hb o ho
end
end Go.Sh

namespace Go.Sh
open Go

section
variable {E : Env} {C : SCall} {ops : Array Oper} {n0 : Nat} {D : T Nat}

theorem sdsts_spec : ∀ (l : List Oper) (i : Nat) (D0 D : T Nat), ops.toList.drop i = l → (∀ (j : Nat) (o : Oper) (d : Tmp), ops[j]? = some o → o.dst = some d → d + 1 < 2 ^ bits) →
    (∀ t j, D0.get t = some j → j < i ∧ ∃ o : Oper, ops[j]? = some o ∧ o.dst = some t) → (∀ (j : Nat) (o : Oper) (d : Tmp), j < i → ops[j]? = some o → o.dst = some d → D0.get d = some j) → sdsts l i D0 = some D →
    (∀ t j, D.get t = some j → ∃ o : Oper, ops[j]? = some o ∧ o.dst = some t) ∧ (∀ (j : Nat) (o : Oper) (d : Tmp), ops[j]? = some o → o.dst = some d → D.get d = some j) := by
  intro l
  induction l with
  | nil =>
    intro i D0 D hd hbd h1 h2 h
    simp only [sdsts, Option.some.injEq] at h
    subst h
    refine ⟨fun t j hj => (h1 t j hj).2, fun j o d ho hod => ?_⟩
    have hj : j < i := by
      have hlen : ops.size ≤ i := by
        have := congrArg List.length hd
        simp at this
        omega
      have : j < ops.size := (Array.getElem?_eq_some_iff.1 ho).1
      omega
    exact h2 j o d hj ho hod
  | cons o l ih =>
    intro i D0 D hd hbd h1 h2 h
    have hoi : ops[i]? = some o := by
      have : (ops.toList.drop i)[0]? = some o := by rw [hd]; rfl
      simpa using this
    have hrest : ops.toList.drop (i + 1) = l := by
      have := congrArg List.tail hd
      simpa [List.tail_drop] using this
    simp only [sdsts] at h
    cases hod : o.dst with
    | none =>
      rw [hod] at h
      refine ih (i + 1) D0 D hrest hbd (fun t j hj => ⟨by have := (h1 t j hj).1; omega, (h1 t j hj).2⟩) (fun j o' d hj ho' hd' => ?_) h
      by_cases hji : j = i
      · subst hji; rw [hoi] at ho'; cases ho'; rw [hod] at hd'; cases hd'
      · exact h2 j o' d (by omega) ho' hd'
    | some d =>
      rw [hod] at h
      simp only at h
      cases hg : D0.get d with
      | some _ => rw [hg] at h; simp at h
      | none =>
        rw [hg] at h
        have hdb := hbd i o d hoi hod
        refine ih (i + 1) (D0.set bits d i) D hrest hbd (fun t j hj => ?_) (fun j o' d' hj ho' hd' => ?_) h
        · by_cases ht : t = d
          · subst ht
            rw [T.get_set_lt D0 hdb] at hj
            simp only [Option.some.injEq] at hj
            subst hj
            exact ⟨by omega, o, hoi, hod⟩
          · rw [T.get_set_ne ht] at hj
            exact ⟨by have := (h1 t j hj).1; omega, (h1 t j hj).2⟩
        · by_cases hji : j = i
          · subst hji
            rw [hoi] at ho'; cases ho'
            rw [hod] at hd'; cases hd'
            exact T.get_set_lt D0 hdb
          · have hx := h2 j o' d' (by omega) ho' hd'
            have hne : d' ≠ d := fun e => by rw [e, hg] at hx; cases hx
            rw [T.get_set_ne hne]; exact hx

variable {M : Nat → Nat} {S : Nat → SAct} {W : Nat → SW} {Vv : Nat → Value}

/-- What a temporary holds when these operations have been. -/
noncomputable def slotV (D : T Nat) (s0 : SAct) (Vv : Nat → Value) (done : Nat → Prop) [DecidablePred done] (t : Nat) : Option Value :=
  match D.get t with
  | some j => if done j then some (Vv j) else s0.t.get t
  | none => s0.t.get t

theorem text_slots (hF : ∀ (i : Nat) (o : Oper), ops[i]? = some o → Facts E C ops n0 D M S W Vv i o) (hD1 : ∀ t j, D.get t = some j → ∃ o : Oper, ops[j]? = some o ∧ o.dst = some t) (hD2 : ∀ (j : Nat) (o : Oper) (d : Tmp), ops[j]? = some o → o.dst = some d → D.get d = some j)
    (hb : (S 0).n + 1 < 2 ^ bits) : ∀ i, i ≤ ops.size → (S i).n = (S 0).n ∧ (S i).marks = (S 0).marks ∧ ∀ t, (S i).t.get t = slotV D (S 0) Vv (· < i) t := by
  intro i
  induction i with
  | zero =>
    intro _
    refine ⟨rfl, rfl, fun t => ?_⟩
    unfold slotV
    cases D.get t <;> simp
  | succ i ih =>
    intro hi
    obtain ⟨h1, h2, h3⟩ := ih (by omega)
    have hoi : ops[i]? = some ops[i] := by simp
    have hf := hF i _ hoi
    rcases SAct.put_some hf.put with ⟨hd, he⟩ | ⟨d, hd, hlt, he⟩
    · rw [he]
      refine ⟨h1, h2, fun t => ?_⟩
      rw [h3 t]
      unfold slotV
      cases hg : D.get t with
      | none => rfl
      | some j =>
        obtain ⟨o', ho', hd'⟩ := hD1 t j hg
        have hji : j ≠ i := by
          rintro rfl
          rw [hoi] at ho'; cases ho'
          rw [hd] at hd'; cases hd'
        simp only
        have : (j < i + 1) ↔ (j < i) := by omega
        simp only [this]
    · rw [he]
      refine ⟨h1, h2, fun t => ?_⟩
      show ((S i).t.set bits d (Vv i)).get t = _
      have hdi := hD2 i _ d hoi hd
      by_cases ht : t = d
      · subst ht
        have hlt' : t < (S 0).n := by rw [← h1]; exact hlt
        rw [T.get_set_lt _ (by omega)]
        unfold slotV
        rw [hdi]
        simp
      · rw [T.get_set_ne ht, h3 t]
        unfold slotV
        cases hg : D.get t with
        | none => rfl
        | some j =>
          obtain ⟨o', ho', hd'⟩ := hD1 t j hg
          have hji : j ≠ i := by
            rintro rfl
            rw [hoi] at ho'; cases ho'
            rw [hd] at hd'; cases hd'
            exact ht rfl
          simp only
          have : (j < i + 1) ↔ (j < i) := by omega
          simp only [this]

/-- From one loud operation to the next. -/
theorem text_on {κ0 κ : K} {σ0 : SW} {w0 w : World} {done : Nat → Prop} [DecidablePred done] (hF : ∀ (i : Nat) (o : Oper), ops[i]? = some o → Facts E C ops n0 D M S W Vv i o) (hn0 : σ0.n = n0) (hd0 : ∀ s bi, κ0 s = some bi → s < σ0.n) :
    ∀ k i, i + k ≤ ops.size → (∀ j, i ≤ j → j < i + k → ¬ NQ E ops j) → Rel κ (W i) w → Post κ0 κ σ0 (W i) w0 w → FInv E ops S n0 w0.heap.size κ (W i) w done i →
      Rel κ (W (i + k)) w ∧ Post κ0 κ σ0 (W (i + k)) w0 w ∧ FInv E ops S n0 w0.heap.size κ (W (i + k)) w done (i + k) := by
  intro k
  induction k with
  | zero => intro i _ _ h1 h2 h3; exact ⟨h1, h2, h3⟩
  | succ k ih =>
    intro i hi hn h1 h2 h3
    have hoi : ops[i]? = some ops[i] := by simp
    have hq : loudOp E ops[i].op = false := by
      cases hq : loudOp E ops[i].op with
      | false => rfl
      | true => exact absurd ⟨_, hoi, hq⟩ (hn i (by omega) (by omega))
    have go : Rel κ (W (i + 1)) w ∧ Post κ0 κ σ0 (W (i + 1)) w0 w ∧ FInv E ops S n0 w0.heap.size κ (W (i + 1)) w done (i + 1) := by
      rcases (hF i _ hoi).step with ⟨hw, _, h⟩ | ⟨_, hfl, h⟩ | ⟨hw, hfl, so, hsf, h⟩
      · rw [h]
        refine ⟨h1, h2, h3.skip ?_⟩
        rintro v so ⟨o, ho, hw', _⟩
        rw [hoi] at ho; cases ho
        rw [hw] at hw'; cases hw'
      · have hqt : quietOp E ops[i].op = true := by
          unfold loudOp at hq
          rw [hfl] at hq
          cases hqq : quietOp E ops[i].op with
          | true => rfl
          | false => rw [hqq] at hq; simp at hq
        rw [sop_quiet hqt h]
        refine ⟨h1, h2, h3.skip ?_⟩
        rintro v so ⟨o, ho, _, hfl', _⟩
        rw [hoi] at ho; cases ho
        rw [hfl] at hfl'; cases hfl'
      · rw [h]
        exact h3.pass hn0 hd0 h1 h2 ⟨_, hoi, hw, hfl, hsf⟩
    obtain ⟨g1, g2, g3⟩ := go
    have := ih (i + 1) (by omega) (fun j a b => hn j (by omega) (by omega)) g1 g2 g3
    rw [show i + 1 + k = i + (k + 1) by omega] at this
    exact this

/-- Where the next operation that is not quiet stands. -/
def NextAt (E : Env) (ops : Array Oper) (listed : Array Bool) (p : Nat) : Prop :=
  (p = ops.size ∨ (p < ops.size ∧ NQ E ops p)) ∧ ∀ j, NQ E ops j → (listed.getD j true = true ↔ j < p)

theorem next_exists (E : Env) (ops : Array Oper) : ∀ (k i : Nat), i + k = ops.size → ∃ p, i ≤ p ∧ (p = ops.size ∨ (p < ops.size ∧ NQ E ops p)) ∧ ∀ j, i ≤ j → j < p → ¬ NQ E ops j := by
  intro k
  induction k with
  | zero => intro i hi; exact ⟨i, Nat.le_refl _, .inl (by omega), fun j a b => by omega⟩
  | succ k ih =>
    intro i hi
    by_cases h : NQ E ops i
    · exact ⟨i, Nat.le_refl _, .inr ⟨by omega, h⟩, fun j a b => by omega⟩
    · obtain ⟨p, h1, h2, h3⟩ := ih (i + 1) (by omega)
      refine ⟨p, by omega, h2, fun j a b => ?_⟩
      by_cases hji : j = i
      · subst hji; exact h
      · exact h3 j (by omega) b
end
end Go.Sh

namespace Go.Sh
open Go

section
variable {E : Env} {C : SCall} {ops : Array Oper} {n0 : Nat} {D : T Nat}

theorem sfree_spec {n i m p : Nat} : ∀ {l : List (Nat × Nat × SW)}, (∀ x ∈ l, x.1 ≠ n → (x.1 < p → tb x.2.1 i = false) ∧ (¬ x.1 < p → tb m x.1 = false)) → sfree n i m p l = true := by
  intro l
  induction l with
  | nil => intro _; rfl
  | cons x l ih =>
    intro h
    obtain ⟨j, mj, σj⟩ := x
    have ih := ih fun x hx => h x (by simp [hx])
    have hx := h (j, mj, σj) (by simp)
    simp only at hx
    simp only [sfree]
    cases hj : Nat.beq j n with
    | true => exact ih
    | false =>
      have hne := hx (Nat.ne_of_beq_eq_false hj)
      simp only
      cases hlt : Nat.blt j p with
      | true =>
        have : j < p := by simpa [Nat.blt_eq] using hlt
        simp only [hne.1 this]
        exact ih
      | false =>
        have : ¬ j < p := by
          intro hh
          rw [← Nat.blt_eq] at hh
          rw [hh] at hlt; cases hlt
        simp only [hne.2 this]
        exact ih

theorem smods_mem {n : Nat} {σ : SW} : ∀ {L : List SRec}, (n, 0, σ) ∈ smods E n σ L ∧ (∀ x ∈ L, loudOp E x.o.op = true → (x.i, x.m, x.σ) ∈ smods E n σ L) ∧
    (∀ y ∈ smods E n σ L, y = (n, 0, σ) ∨ ∃ x ∈ L, loudOp E x.o.op = true ∧ y = (x.i, x.m, x.σ)) := by
  intro L
  induction L with
  | nil => exact ⟨by simp [smods], fun x hx => (by cases hx), fun y hy => .inl (by simpa [smods] using hy)⟩
  | cons x L ih =>
    obtain ⟨h1, h2, h3⟩ := ih
    simp only [smods]
    cases hq : loudOp E x.o.op with
    | false =>
      refine ⟨h1, fun y hy hqy => ?_, fun y hy => ?_⟩
      · rcases List.mem_cons.1 hy with rfl | hy
        · rw [hq] at hqy; cases hqy
        · exact h2 y hy hqy
      · rcases h3 y hy with h | ⟨z, hz, h⟩
        · exact .inl h
        · exact .inr ⟨z, List.mem_cons_of_mem _ hz, h⟩
    | true =>
      refine ⟨List.mem_cons_of_mem _ h1, fun y hy hqy => ?_, fun y hy => ?_⟩
      · rcases List.mem_cons.1 hy with rfl | hy
        · exact List.mem_cons_self
        · exact List.mem_cons_of_mem _ (h2 y hy hqy)
      · rcases List.mem_cons.1 hy with rfl | hy
        · exact .inr ⟨x, List.mem_cons_self, hq, rfl⟩
        · rcases h3 y hy with h | ⟨z, hz, h⟩
          · exact .inl h
          · exact .inr ⟨z, List.mem_cons_of_mem _ hz, h⟩

theorem sagain_spec {n : Nat} {x : SRec} {all : List (Nat × Nat × SW)} : ∀ {l : List (Nat × Nat × SW)}, sagain E C n x all l = true → ∀ y ∈ l, sfree n x.i x.m y.1 all = true → ∃ σ', sop E C x.o x.s y.2.2 = some (x.v, σ') := by
  intro l
  induction l with
  | nil => intro _ y hy; cases hy
  | cons z l ih =>
    intro h y hy hf
    obtain ⟨p, mp, σp⟩ := z
    simp only [sagain] at h
    cases hfz : sfree n x.i x.m p all with
    | false =>
      rw [hfz] at h
      rcases List.mem_cons.1 hy with rfl | hy
      · simp only at hf; rw [hfz] at hf; cases hf
      · exact ih h y hy hf
    | true =>
      rw [hfz] at h
      simp only at h
      cases hs : sop E C x.o x.s σp with
      | none => rw [hs] at h; simp at h
      | some r =>
        obtain ⟨v, σ1⟩ := r
        rw [hs] at h
        simp only at h
        cases hv : veq 40 v x.v with
        | false => rw [hv] at h; simp at h
        | true =>
          rw [hv] at h
          rcases List.mem_cons.1 hy with rfl | hy
          · exact ⟨σ1, by rw [← veq_eq 40 v x.v hv]; exact hs⟩
          · exact ih h y hy hf

theorem sagains_spec {n : Nat} {all : List (Nat × Nat × SW)} : ∀ {L : List SRec}, sagains E C ops n all L = true → ∀ x ∈ L, quietOp E x.o.op = true → swanted ops x.s x.o = true → sagain E C n x all all = true := by
  intro L
  induction L with
  | nil => intro _ x hx; cases hx
  | cons z L ih =>
    intro h x hx hq hw
    simp only [sagains] at h
    rcases List.mem_cons.1 hx with rfl | hx
    · rw [hq, hw] at h
      simp only at h
      cases hs : sagain E C n x all all with
      | true => rfl
      | false => rw [hs] at h; simp at h
    · split at h
      · exact ih h x hx hq hw
      · cases h

theorem wanted_of {κ : K} {a : Act} {s : SAct} (o : Oper) (h : ∀ j want d, o.guard = some (j, want) → (ops[j]?).bind (·.dst) = some d → V κ (a.tmps.getD d undef) ((s.t.get d).getD undef)) :
    Region.wanted o (yielded ops a.tmps) = swanted ops s o := by
  unfold Region.wanted swanted
  cases hgd : o.guard with
  | none => rfl
  | some jw =>
    obtain ⟨j, want⟩ := jw
    dsimp only
    unfold yielded
    cases hd : (ops[j]?).bind (·.dst) with
    | none => simp
    | some d =>
      simp only [Option.bind_some]
      have hv := h j want d hgd hd
      have hreal : a.tmps.getD d undef = (a.tmps[d]?).getD undef := by simp
      rw [hreal] at hv
      generalize a.tmps[d]? = r at hv
      generalize s.t.get d = q at hv
      have und : ∀ x, V κ undef x → ∀ b, x ≠ .bool b := by
        intro x hx b hb
        subst hb
        cases hx
      have und' : ∀ x, V κ x undef → ∀ b, x ≠ .bool b := by
        intro x hx b hb
        subst hb
        cases hx
      cases r with
      | none =>
        cases q with
        | none => simp
        | some y =>
          simp only [Option.getD_none, Option.getD_some] at hv
          cases y <;> first | rfl | exact absurd rfl (und _ hv _)
      | some x =>
        cases q with
        | none =>
          simp only [Option.getD_none, Option.getD_some] at hv
          cases x <;> first | rfl | exact absurd rfl (und' _ hv _)
        | some y =>
          simp only [Option.getD_some] at hv
          cases hv <;> rfl

variable {M : Nat → Nat} {S : Nat → SAct} {W : Nat → SW} {Vv : Nat → Value}

def Lst (listed : Array Bool) (j : Nat) : Prop := listed.getD j true = true
instance (listed : Array Bool) : DecidablePred (Lst listed) := fun j => inferInstanceAs (Decidable (listed.getD j true = true))

theorem lst_set {listed : Array Bool} {i j : Nat} : Lst (listed.setIfInBounds i true) j ↔ j = i ∨ Lst listed j := by
  unfold Lst
  simp only [Array.getD_eq_getD_getElem?]
  by_cases h : j = i
  · subst h
    by_cases hs : j < listed.size
    · simp [hs]
    · have : (listed.setIfInBounds j true)[j]? = none := by simp; omega
      rw [this]; simp
  · rw [Array.getElem?_setIfInBounds_ne (Ne.symm h)]
    simp [h]

structure Inv (E : Env) (ops : Array Oper) (n0 : Nat) (D : T Nat) (M : Nat → Nat) (S : Nat → SAct) (W : Nat → SW) (Vv : Nat → Value) (κ : K) (σ0 : SW) (w0 : World) (listed : Array Bool) (a : Act) (w : World) : Prop where
  size : listed.size = ops.size
  closed : ∀ i, i < ops.size → Lst listed i → ∀ j, tb (M i) j = true → Lst listed j
  st : ∃ p κ', NextAt E ops listed p ∧ Rel κ' (W p) w ∧ Post κ κ' σ0 (W p) w0 w ∧ FInv E ops S n0 w0.heap.size κ' (W p) w (Lst listed) p ∧ a.tmps.size = (S 0).n ∧
    (∀ t, V κ' (a.tmps.getD t undef) ((slotV D (S 0) Vv (Lst listed) t).getD undef)) ∧ F2 (fun d m => ∃ bi, κ' m = some bi ∧ d = ({ target := .collected bi.r, args := #[] } : Deferred)) a.defers (S 0).marks

theorem ready_mem {listed : Array Bool} {i : Nat} : i ∈ Region.ready .any ops listed ↔ ∃ o, ops[i]? = some o ∧ ¬ Lst listed i ∧ ∀ e ∈ o.after.toList, Region.binds .any e = true → listed.getD e.on false = true := by
  unfold Region.ready
  rw [List.mem_filter]
  constructor
  · rintro ⟨h1, h2⟩
    have hi : i < ops.size := List.mem_range.1 h1
    have ho : ops[i]? = some ops[i] := by simp
    rw [ho] at h2
    simp only [Option.map_some, Option.getD_some, Bool.and_eq_true, Bool.not_eq_true'] at h2
    refine ⟨_, ho, by unfold Lst; rw [h2.1]; simp, fun e he hb => ?_⟩
    have := (Array.all_eq_true'.1 h2.2) e (by simpa using he)
    simpa [hb] using this
  · rintro ⟨o, ho, h1, h2⟩
    have hi : i < ops.size := (Array.getElem?_eq_some_iff.1 ho).1
    refine ⟨List.mem_range.2 hi, ?_⟩
    rw [ho]
    simp only [Option.map_some, Option.getD_some, Bool.and_eq_true, Bool.not_eq_true']
    refine ⟨by unfold Lst at h1; simpa using h1, ?_⟩
    rw [Array.all_eq_true']
    intro e he
    cases hb : Region.binds .any e with
    | false => rfl
    | true => simpa using h2 e (by simpa using he) hb
end
end Go.Sh

namespace Go.Sh
open Go

section
variable {E : Env} {C : SCall} {ops : Array Oper} {n0 : Nat} {D : T Nat} {M : Nat → Nat} {S : Nat → SAct} {W : Nat → SW} {Vv : Nat → Value} {κ : K}

theorem text_n (hF : ∀ (i : Nat) (o : Oper), ops[i]? = some o → Facts E C ops n0 D M S W Vv i o) : ∀ i, i ≤ ops.size → (S i).n = (S 0).n := by
  intro i
  induction i with
  | zero => intro _; rfl
  | succ i ih =>
    intro hi
    have hoi : ops[i]? = some ops[i] := by simp
    rcases SAct.put_some (hF i _ hoi).put with ⟨_, he⟩ | ⟨d, _, _, he⟩
    · rw [he]; exact ih (by omega)
    · rw [he]; exact ih (by omega)

theorem slot_same {s0 : SAct} {t : Nat} {p q : Nat → Prop} [DecidablePred p] [DecidablePred q] (h : ∀ j, D.get t = some j → (p j ↔ q j)) : slotV D s0 Vv p t = slotV D s0 Vv q t := by
  unfold slotV
  cases hg : D.get t with
  | none => rfl
  | some j =>
    have := h j hg
    simp only [this]

/-- What a run in any order rests on. -/
structure Ctx (E : Env) (C : SCall) (ops : Array Oper) (n0 : Nat) (D : T Nat) (M : Nat → Nat) (S : Nat → SAct) (W : Nat → SW) (Vv : Nat → Value) (κ : K) : Prop where
  good : Good E
  sim : CSim E C
  facts : ∀ (i : Nat) (o : Oper), ops[i]? = some o → Facts E C ops n0 D M S W Vv i o
  d1 : ∀ t j, D.get t = some j → ∃ o : Oper, ops[j]? = some o ∧ o.dst = some t
  d2 : ∀ (j : Nat) (o : Oper) (d : Tmp), ops[j]? = some o → o.dst = some d → D.get d = some j
  bound : (S 0).n + 1 < 2 ^ bits
  consts : ∀ o ∈ ops.toList, ∀ x ∈ o.op.operands.toList, OpV κ x
  gk : GK E κ
  again : ∀ (i : Nat) (o : Oper), ops[i]? = some o → quietOp E o.op = true → swanted ops (S i) o = true → ∀ p, (p = ops.size ∨ (p < ops.size ∧ NQ E ops p)) →
    (∀ j, NQ E ops j → j < p → tb (M j) i = false) → (∀ j, NQ E ops j → ¬ j < p → tb (M i) j = false) → ∃ σ', sop E C o (S i) (W p) = some (Vv i, σ')

theorem all_listed (X : Ctx E C ops n0 D M S W Vv κ) {listed : Array Bool} (hsz : listed.size = ops.size) (h : Region.ready .any ops listed = []) : ∀ i, i < ops.size → Lst listed i := by
  intro i
  induction i using Nat.strongRecOn with
  | _ i ih =>
    intro hi
    by_cases hl : Lst listed i
    · exact hl
    · have hoi : ops[i]? = some ops[i] := by simp
      have : i ∈ Region.ready .any ops listed := by
        refine ready_mem.2 ⟨_, hoi, hl, fun e he hb => ?_⟩
        have hlt := (X.facts i _ hoi).back e he hb
        have := ih e.on hlt (by omega)
        unfold Lst at this
        simp only [Array.getD_eq_getD_getElem?] at this ⊢
        have hes : e.on < listed.size := by omega
        rw [Array.getElem?_eq_getElem hes] at this ⊢
        simpa using this
      rw [h] at this
      cases this

theorem inv_end (X : Ctx E C ops n0 D M S W Vv κ) {listed : Array Bool} {a : Act} {σ0 : SW} {w w0 : World} (hI : Inv E ops n0 D M S W Vv κ σ0 w0 listed a w) (hall : ∀ i, i < ops.size → Lst listed i) :
    ∃ κ', AcR κ' a (S ops.size) ∧ Rel κ' (W ops.size) w ∧ Post κ κ' σ0 (W ops.size) w0 w := by
  obtain ⟨p, κ', hp, hR, hP, hFI, hs, hv, hd⟩ := hI.st
  have hpn : p = ops.size := by
    rcases hp.1 with h | ⟨h1, h2⟩
    · exact h
    · have := (hp.2 p h2).1 (hall p h1)
      omega
  subst hpn
  obtain ⟨h1, h2, h3⟩ := text_slots X.facts X.d1 X.d2 X.bound ops.size (Nat.le_refl _)
  refine ⟨κ', ⟨⟨by rw [h1]; exact hs, by rw [h1]; exact X.bound, fun t => ?_⟩, by rw [h2]; exact hd⟩, hR, hP⟩
  rw [h3 t]
  have e : slotV D (S 0) Vv (fun x => x < ops.size) t = slotV D (S 0) Vv (Lst listed) t := slot_same fun j hj => by
    obtain ⟨o, ho, _⟩ := X.d1 t j hj
    have hj' := (Array.getElem?_eq_some_iff.1 ho).1
    exact ⟨fun _ => hall j hj', fun _ => hj'⟩
  rw [e]
  exact hv t

theorem float_wp (G : Good E) {o : Oper} {a : Act} {s : SAct} {w : World} (he : ∀ x ∈ o.op.operands.toList, V κ (a.eval x) (s.eval x)) {b : Nat} {v' : Value} {so : SObj} (h : sfloat E o.op s b = some (v', so))
    {ro : Option Nat} {J : Act → World → Prop} {Q : Exit → Act → World → Prop}
    (hK : ∀ v w1 R n, w1.heap = (w.alloc R).heap → w1.os = w.os → w1.tape = w.tape → w1.output = w.output →
      (∀ κ2, K.le κ κ2 → κ2 b = some ⟨w.heap.size, 0, n⟩ → V κ2 v v' ∧ OR κ2 ⟨w.heap.size, 0, n⟩ so (some R)) → J (a.put o.dst v) w1) : o.wpIn (FW ro) 0 E.P a w J Q := by
  refine ⟨fun f _ => FW.fn ro f, ?_⟩
  have hnd : ∀ c, o.op ≠ .defer c := by
    intro c hc
    unfold sfloat at h
    rw [hc] at h
    simp at h
  rw [Oper.semAt_eq _ _ _ hnd]
  obtain ⟨t, h2, v, w1, R, n, h3, h4, h5, h6, h7, h8⟩ := r_float (w := w) G he h
  have hrun : (execOp a.eval o).run E.P w = .ok (.value v) w1 := by
    rw [h2, Sem.run_bind, h3]; rfl
  rw [hrun]
  exact hK v w1 R n h4 h5 h6 h7 h8

theorem draw_go (X : Ctx E C ops n0 D M S W Vv κ) {ro : Option Nat} {Q : Exit → Act → World → Prop} {σ0 : SW} {w0 : World}
    (hn0 : σ0.n = n0) (hd0 : ∀ s bi, κ s = some bi → s < σ0.n) (hQ : ∀ κ' a' w', AcR κ' a' (S ops.size) → Rel κ' (W ops.size) w' → Post κ κ' σ0 (W ops.size) w0 w' → Q .normal a' w') :
    ∀ (fuel : Nat) (listed : Array Bool) (a : Act) (w : World), Inv E ops n0 D M S W Vv κ σ0 w0 listed a w → listed.toList.count false ≤ fuel → wpAnyIn (FW ro) 0 E.P .any ops Q fuel listed a w := by
  intro fuel
  induction fuel with
  | zero =>
    intro listed a w hI hc
    have hall : ∀ i, i < ops.size → Lst listed i := by
      intro i hi
      have h0 : listed.toList.count false = 0 := by omega
      have hn := List.count_eq_zero.1 h0
      have hil : i < listed.size := by rw [hI.size]; exact hi
      unfold Lst
      simp only [Array.getD_eq_getD_getElem?, Array.getElem?_eq_getElem hil, Option.getD_some]
      cases hb : listed[i] with
      | true => rfl
      | false => exact absurd (by rw [← hb]; simp) hn
    obtain ⟨κ', h1, h2, h3⟩ := inv_end X hI hall
    refine ⟨?_, hQ κ' a w h1 h2 h3⟩
    apply List.eq_nil_iff_forall_not_mem.2
    intro i hi
    obtain ⟨o, ho, hnl, _⟩ := ready_mem.1 hi
    exact hnl (hall i (Array.getElem?_eq_some_iff.1 ho).1)
  | succ fuel ih =>
    intro listed a w hI hc
    refine ⟨fun hr => ?_, fun i hi => ?_⟩
    · obtain ⟨κ', h1, h2, h3⟩ := inv_end X hI (all_listed X hI.size hr)
      exact hQ κ' a w h1 h2 h3
    · obtain ⟨o, hoi, hnl, hedge⟩ := ready_mem.1 hi
      have hisz : i < ops.size := (Array.getElem?_eq_some_iff.1 hoi).1
      have hF := X.facts i o hoi
      obtain ⟨p, κ', hp, hR, hP, hFI, hs, hv, hd⟩ := hI.st
      obtain ⟨t1, t2, t3⟩ := text_slots X.facts X.d1 X.d2 X.bound i (by omega)
      have hcomes : o ∈ ops.toList := by
        have := Array.getElem?_eq_some_iff.1 hoi
        obtain ⟨h1, rfl⟩ := this
        simp
      -- what must have been has been
      have hbefore : ∀ j, tb (M i) j = true → Lst listed j := by
        intro j hj
        obtain ⟨hji, e, he, hb, hje⟩ := hF.mask j hj
        have hlt := hF.back e he hb
        have hle : Lst listed e.on := by
          have := hedge e he hb
          unfold Lst
          simp only [Array.getD_eq_getD_getElem?] at this ⊢
          have hes : e.on < listed.size := by rw [hI.size]; omega
          rw [Array.getElem?_eq_getElem hes] at this ⊢
          simpa using this
        rcases hje with rfl | hje
        · exact hle
        · exact hI.closed e.on (by omega) hle j hje
      -- a temporary that it looks at
      have hlook : ∀ t, (∀ j, D.get t = some j → tb (M i) j = true) → V κ' (a.tmps.getD t undef) (((S i).t.get t).getD undef) := by
        intro t ht
        rw [t3 t]
        have e : slotV D (S 0) Vv (fun x => x < i) t = slotV D (S 0) Vv (Lst listed) t := slot_same fun j hj => by
          have := ht j hj
          exact ⟨fun _ => hbefore j this, fun _ => (hF.mask j this).1⟩
        rw [e]
        exact hv t
      have hops : ∀ x ∈ o.op.operands.toList, V κ' (a.eval x) ((S i).eval x) := by
        intro x hx
        cases x with
        | tmp t => exact hlook t fun j hj => hF.slot t hx j hj
        | const v => exact (X.consts o hcomes _ hx).mono hP.le
        | global g => exact (X.consts o hcomes _ hx).mono hP.le
        | func f => exact .func' (.func f) .nil .nil
      have hwant : Region.wanted o (yielded ops a.tmps) = swanted ops (S i) o := wanted_of o fun j want d hgd hdd => hlook d fun j' hj' => by
        obtain ⟨oj, hoj, hdj⟩ : ∃ oj, ops[j]? = some oj ∧ oj.dst = some d := by
          cases hq : ops[j]? with
          | none => rw [hq] at hdd; simp at hdd
          | some oj => rw [hq] at hdd; exact ⟨oj, rfl, by simpa using hdd⟩
        have := X.d2 j oj d hoj hdj
        rw [this] at hj'
        cases hj'
        exact hF.guard j want hgd
      -- one that is not quiet comes in its place
      have hplace : loudOp E o.op = true → p = i := by
        intro hq
        have hN : NQ E ops i := ⟨o, hoi, hq⟩
        have hle : ¬ i < p := fun h => hnl ((hp.2 i hN).2 h)
        have hdown : ∀ k j, j + k + 1 = i → NQ E ops j → Lst listed j := by
          intro k
          induction k using Nat.strongRecOn with
          | _ k ihk =>
            intro j hj hNj
            -- the next one above j
            by_cases hnone : ∀ x, j < x → x < i → ¬ NQ E ops x
            · exact hbefore j (hF.chain hq j (by omega) hNj hnone)
            · have ⟨x, hx⟩ : ∃ x, j < x ∧ x < i ∧ NQ E ops x := by
                apply Classical.byContradiction
                intro hc
                exact hnone fun x a b c => hc ⟨x, a, b, c⟩
              -- the least such x
              have hleast : ∀ y, y ≤ i → (∃ x, j < x ∧ x < y ∧ NQ E ops x) → ∃ x, j < x ∧ x < y ∧ NQ E ops x ∧ ∀ z, j < z → z < x → ¬ NQ E ops z := by
                intro y
                induction y with
                | zero => rintro _ ⟨x, a, b, c⟩; omega
                | succ y ihy =>
                  rintro hy ⟨x, a, b, c⟩
                  by_cases hlow : ∃ x, j < x ∧ x < y ∧ NQ E ops x
                  · obtain ⟨x, a, b, c, d⟩ := ihy (by omega) hlow
                    exact ⟨x, a, by omega, c, d⟩
                  · have hxy : x = y := by
                      apply Classical.byContradiction
                      intro hne
                      exact hlow ⟨x, a, by omega, c⟩
                    subst hxy
                    exact ⟨x, a, by omega, c, fun z hz1 hz2 hz3 => hlow ⟨z, hz1, hz2, hz3⟩⟩
              obtain ⟨y, y1, y2, y3, y4⟩ := hleast i (Nat.le_refl _) ⟨x, hx⟩
              have hly : Lst listed y := ihk (i - y - 1) (by omega) y (by omega) y3
              obtain ⟨oy, hoy, hqy⟩ := y3
              have := (X.facts y oy hoy).chain hqy j y1 hNj y4
              exact hI.closed y (by omega) hly j this
        rcases hp.1 with h | ⟨h1, h2⟩
        · omega
        · by_cases hpi : p < i
          · have := (hp.2 p h2).1 (hdown (i - p - 1) p (by omega) h2)
            omega
          · omega
      -- where the next stands afterwards
      have hother : loudOp E o.op = false → NextAt E ops (listed.setIfInBounds i true) p := by
        intro hq
        refine ⟨hp.1, fun j hNj => ?_⟩
        have hji : j ≠ i := by
          rintro rfl
          obtain ⟨o', ho', hq'⟩ := hNj
          rw [hoi] at ho'; cases ho'
          rw [hq] at hq'; cases hq'
        have := hp.2 j hNj
        show Lst _ j ↔ _
        rw [lst_set]
        exact ⟨fun h => this.1 (h.resolve_left hji), fun h => .inr (this.2 h)⟩
      have hloud : loudOp E o.op = true → ∃ k, i + 1 + k ≤ ops.size ∧ NextAt E ops (listed.setIfInBounds i true) (i + 1 + k) ∧ ∀ j, i + 1 ≤ j → j < i + 1 + k → ¬ NQ E ops j := by
        intro hq
        have hpi := hplace hq
        subst hpi
        obtain ⟨p', q1, q2, q3⟩ := next_exists E ops (ops.size - (p + 1)) (p + 1) (by omega)
        have hps : p' ≤ ops.size := by rcases q2 with h | h <;> omega
        have e : p + 1 + (p' - (p + 1)) = p' := by omega
        refine ⟨p' - (p + 1), by omega, ?_, by rw [e]; exact q3⟩
        rw [e]
        refine ⟨q2, fun j hNj => ?_⟩
        have := hp.2 j hNj
        show Lst _ j ↔ _
        rw [lst_set]
        constructor
        · rintro (rfl | h)
          · omega
          · have := this.1 h; omega
        · intro h
          by_cases hj : j = p
          · exact .inl hj
          · by_cases hj2 : j < p
            · exact .inr (this.2 hj2)
            · exact absurd hNj (q3 j (by omega) h)
      have hdone : (∀ v so, ¬ FL E ops S n0 i v so) → ∀ j v so, FL E ops S n0 j v so → (Lst (listed.setIfInBounds i true) j ↔ Lst listed j) := by
        intro hnf j v so hf
        rw [lst_set]
        exact ⟨fun h => h.resolve_left fun e => hnf v so (e ▸ hf), .inr⟩
      -- and on
      have hon : ∀ (p' : Nat) (v : Value) (κ2 : K) (w2 : World), NextAt E ops (listed.setIfInBounds i true) p' → V κ2 v (Vv i) → Rel κ2 (W p') w2 → Post κ κ2 σ0 (W p') w0 w2 → FInv E ops S n0 w0.heap.size κ2 (W p') w2 (Lst (listed.setIfInBounds i true)) p' → K.le κ' κ2 → wpAnyIn (FW ro) 0 E.P .any ops Q fuel (listed.setIfInBounds i true) (a.put o.dst v) w2 := by
        intro p' v κ2 w2 hp' hvv hR2 hP2 hFI2 hle
        refine ih _ _ _ ⟨by simp [hI.size], fun k hk hlk j hj => ?_, p', κ2, hp', hR2, hP2, hFI2, ?_, fun t => ?_, ?_⟩ ?_
        · rw [lst_set] at hlk ⊢
          rcases hlk with rfl | hlk
          · exact .inr (hbefore j hj)
          · exact .inr (hI.closed k hk hlk j hj)
        · unfold Act.put
          cases o.dst <;> simp [hs]
        · have hb := text_n X.facts i (by omega)
          by_cases ht : o.dst = some t
          · have hdt := X.d2 i o t hoi ht
            have e1 : slotV D (S 0) Vv (Lst (listed.setIfInBounds i true)) t = some (Vv i) := by
              unfold slotV
              rw [hdt]
              simp only
              rw [if_pos (lst_set.2 (.inl rfl))]
            rw [e1, ht]
            have hlt : t < a.tmps.size := by
              rcases SAct.put_some hF.put with ⟨hd0, _⟩ | ⟨d, hd0, hlt, _⟩
              · rw [ht] at hd0; cases hd0
              · rw [ht] at hd0; cases hd0
                rw [hs, ← hb]; exact hlt
            have e2 : (a.put (some t) v).tmps.getD t undef = v := by
              simp [Act.put, Array.getD, hlt]
            rw [e2]
            exact hvv
          · have e1 : slotV D (S 0) Vv (Lst (listed.setIfInBounds i true)) t = slotV D (S 0) Vv (Lst listed) t := slot_same fun j hj => by
              have hji : j ≠ i := by
                rintro rfl
                obtain ⟨o', ho', hd'⟩ := X.d1 t j hj
                rw [hoi] at ho'; cases ho'
                exact ht hd'
              rw [lst_set]
              exact ⟨fun h => h.resolve_left hji, .inr⟩
            have e2 : (a.put o.dst v).tmps.getD t undef = a.tmps.getD t undef := by
              unfold Act.put
              cases hdd : o.dst with
              | none => rfl
              | some d =>
                have hne : d ≠ t := fun h => ht (by rw [hdd, h])
                simp only [Array.getD_eq_getD_getElem?]
                rw [Array.getElem?_setIfInBounds_ne hne]
            rw [e1, e2]
            exact (hv t).mono hle
        · have : (a.put o.dst v).defers = a.defers := by unfold Act.put; cases o.dst <;> rfl
          rw [this]
          exact hd.mono fun _ _ ⟨bi, h1, h2⟩ => ⟨bi, hle _ _ h1, h2⟩
        · have hil : i < listed.toList.length := by rw [Array.length_toList, hI.size]; exact hisz
          have hf : listed.toList[i] = false := by
            unfold Lst at hnl
            simp only [Array.getD_eq_getD_getElem?] at hnl
            rw [Array.getElem?_eq_getElem (by simpa using hil)] at hnl
            simpa using hnl
          rw [Array.toList_setIfInBounds, List.count_set hil]
          rw [hf]
          have hpos : 0 < listed.toList.count false := List.count_pos_iff.2 (by rw [← hf]; exact List.getElem_mem hil)
          have e3 : (if (false == false) = true then 1 else 0) = 1 := rfl
          have e4 : (if (true == false) = true then 1 else 0) = 0 := rfl
          rw [e3, e4]
          omega
      -- the shadow goes on from a loud operation
      have hfrom : ∀ (v : Value) (κ2 : K) (w2 : World), loudOp E o.op = true → (∀ v so, ¬ FL E ops S n0 i v so) → V κ2 v (Vv i) → Rel κ2 (W (i + 1)) w2 → Post κ κ2 σ0 (W (i + 1)) w0 w2 → FInv E ops S n0 w0.heap.size κ2 (W (i + 1)) w2 (Lst listed) i → K.le κ' κ2 →
          wpAnyIn (FW ro) 0 E.P .any ops Q fuel (listed.setIfInBounds i true) (a.put o.dst v) w2 := by
        intro v κ2 w2 hq hnf hvv hR2 hP2 hFI2 hle
        obtain ⟨k, hk1, hk2, hk3⟩ := hloud hq
        obtain ⟨g1, g2, g3⟩ := text_on X.facts hn0 hd0 k (i + 1) hk1 hk3 hR2 hP2 ((hFI2.done_iff (hdone hnf)).skip hnf)
        exact hon _ v κ2 w2 hk2 hvv g1 g2 g3 hle
      unfold wpOpIn
      rw [hoi]
      simp only
      rw [hwant]
      rcases hF.step with ⟨hw, hvu, hsame⟩ | ⟨hw, hnfl, hsop⟩ | ⟨hw, hfl, so, hsf, hWn⟩
      · rw [hw, if_neg (by simp)]
        refine ⟨fun f _ => FW.fn ro f, ?_⟩
        have hnf : ∀ v so, ¬ FL E ops S n0 i v so := by
          rintro v so ⟨o', ho', hw', _⟩
          rw [hoi] at ho'; cases ho'
          rw [hw] at hw'; cases hw'
        cases hq : loudOp E o.op with
        | false => exact hon p undef κ' w (hother hq) (by rw [hvu]; exact .undef) hR hP (hFI.done_iff (hdone hnf)) (K.le_refl _)
        | true =>
          have hpi := hplace hq
          subst hpi
          exact hfrom undef κ' w hq hnf (by rw [hvu]; exact .undef) (by rw [hsame]; exact hR) (by rw [hsame]; exact hP) (by rw [hsame]; exact hFI) (K.le_refl _)
      · rw [hw, if_pos rfl]
        have hnf : ∀ v so, ¬ FL E ops S n0 i v so := by
          rintro v so ⟨o', ho', _, hfl', _⟩
          rw [hoi] at ho'; cases ho'
          rw [hnfl] at hfl'; cases hfl'
        have trans : ∀ {κ2 : K} {σ2 : SW} {w2 : World}, Post κ' κ2 (W p) σ2 w w2 → Post κ κ2 σ0 σ2 w0 w2 := fun hP2 => Post.trans hd0 (fun s bi h => (hR.dom s bi h).1) hP hP2
        cases hq : loudOp E o.op with
        | false =>
          have hqt : quietOp E o.op = true := by
            unfold loudOp at hq
            rw [hnfl] at hq
            cases hqq : quietOp E o.op with
            | true => rfl
            | false => rw [hqq] at hq; simp at hq
          obtain ⟨σ', hs'⟩ := X.again i o hoi hqt hw p hp.1
            (fun j hNj hj => by
              cases hb : tb (M j) i with
              | false => rfl
              | true =>
                obtain ⟨oj, hoj, hlj⟩ := hNj
                exact absurd (hI.closed j (Array.getElem?_eq_some_iff.1 hoj).1 ((hp.2 j ⟨oj, hoj, hlj⟩).2 hj) i hb) hnl)
            (fun j hNj hj => by
              cases hb : tb (M i) j with
              | false => rfl
              | true => exact absurd ((hp.2 j hNj).1 (hbefore j hb)) hj)
          have e := sop_quiet hqt hs'
          subst e
          refine step_wp X.good X.sim (X.gk.mono hP.le) hR hops hs' fun v κ2 w2 hvv hR2 hP2 => ?_
          exact hon p v κ2 w2 (hother hq) hvv hR2 (trans hP2) ((hFI.step hR hP2).done_iff (hdone hnf)) hP2.le
        | true =>
          have hpi := hplace hq
          subst hpi
          refine step_wp X.good X.sim (X.gk.mono hP.le) hR hops hsop fun v κ2 w2 hvv hR2 hP2 => ?_
          exact hfrom v κ2 w2 hq hnf hvv hR2 (trans hP2) (hFI.step hR hP2) hP2.le
      · rw [hw, if_pos rfl]
        have hq : loudOp E o.op = false := by
          unfold loudOp
          rw [hfl]
          cases quietOp E o.op <;> rfl
        have hf : FL E ops S n0 i (Vv i) so := ⟨o, hoi, hw, hfl, hsf⟩
        refine float_wp X.good hops hsf fun v w2 R n h1 h2 h3 h4 h5 => ?_
        have hle := K.le_add (bi := ⟨w.heap.size, 0, n⟩) (hFI.un i _ so hf hnl).1
        obtain ⟨hvv, hO⟩ := h5 _ hle (K.add_same _ _ _)
        obtain ⟨g1, g2, g3⟩ := hFI.come hn0 hR hP hf hnl h1 h2 h3 h4 hO (done' := Lst (listed.setIfInBounds i true)) (fun j => lst_set)
        exact hon p v _ w2 (hother hq) hvv g1 g2 g3 hle
end
end Go.Sh

namespace Go.Sh
open Go

theorem draw_sim {E : Env} (G : Good E) {C : SCall} (hC : CSim E C) : DrawSim E C := by
  intro ops id ro Q κ σ w a s s' σ' hV hK hR ha h hQ
  simp only [sregion] at h
  cases hD : sdsts ops.toList 0 .nil with
  | none => rw [hD] at h; simp at h
  | some D =>
    rw [hD] at h
    simp only at h
    cases hd : sdraw E C ops σ.n D ops.toList 0 .nil none s ⟨σ.h, σ.n + ops.size, σ.b⟩ with
    | none => rw [hd] at h; simp at h
    | some x =>
      obtain ⟨L, s1, σ1⟩ := x
      rw [hd] at h
      simp only at h
      cases hag : sagains E C ops ops.size (smods E ops.size σ1 L) L with
      | false => rw [hag] at h; simp at h
      | true =>
        rw [hag] at h
        simp only [Option.some.injEq, Prod.mk.injEq, true_and] at h
        obtain ⟨rfl, rfl⟩ := h
        have hlen := sdraw_length _ _ _ _ _ _ _ hd
        have hlen' : L.length = ops.size := by rw [hlen]; simp
        let M : Nat → Nat := fun j => ((L[j]?).map (·.m)).getD 0
        let S : Nat → SAct := fun j => ((L[j]?).map (·.s)).getD s1
        let W : Nat → SW := fun j => ((L[j]?).map (·.σ)).getD σ1
        let Vv : Nat → Value := fun j => ((L[j]?).map (·.v)).getD undef
        have hend : L[ops.size]? = none := by simp [hlen']
        have hSe : S ops.size = s1 := by show ((L[ops.size]?).map (·.s)).getD s1 = s1; rw [hend]; rfl
        have hWe : W ops.size = σ1 := by show ((L[ops.size]?).map (·.σ)).getD σ1 = σ1; rw [hend]; rfl
        obtain ⟨_, hS0, hW0, hall⟩ := sdraw_spec (E := E) (C := C) (ops := ops) (n0 := σ.n) (D := D) (M := M) (S := S) (W := W) (Vv := Vv) ops.toList 0 .nil none s ⟨σ.h, σ.n + ops.size, σ.b⟩ L (by simp) (fun j b hj => by rw [T.get_nil] at hj; cases hj) (fun j hj => by omega) hd
          (fun k x hk => by simp [M, S, W, Vv, hk]) (by simp only [Nat.zero_add, Array.length_toList]; exact hSe) (by simp only [Nat.zero_add, Array.length_toList]; exact hWe)
        have hF : ∀ (i : Nat) (o : Oper), ops[i]? = some o → Facts E C ops σ.n D M S W Vv i o := fun i o ho => by
          have := (hall i o (by simpa using ho)).2
          simpa using this
        have hrec : ∀ (i : Nat) (o : Oper), ops[i]? = some o → ∃ x, L[i]? = some x ∧ x.o = o ∧ x.i = i := fun i o ho => by
          have := (hall i o (by simpa using ho)).1
          simpa using this
        have hbound : (S 0).n + 1 < 2 ^ bits := by rw [hS0]; exact ha.tm.bound
        have hbd : ∀ (j : Nat) (o : Oper) (d : Tmp), ops[j]? = some o → o.dst = some d → d + 1 < 2 ^ bits := by
          intro j o d ho hod
          have hj := (Array.getElem?_eq_some_iff.1 ho).1
          rcases SAct.put_some (hF j o ho).put with ⟨h0, _⟩ | ⟨d', h0, hlt, _⟩
          · rw [hod] at h0; cases h0
          · rw [hod] at h0; cases h0
            rw [text_n hF j (by omega)] at hlt
            exact Nat.lt_trans (Nat.succ_lt_succ hlt) hbound
        obtain ⟨hD1, hD2⟩ := sdsts_spec (ops := ops) ops.toList 0 .nil D (by simp) hbd (fun t j hj => by rw [T.get_nil] at hj; cases hj) (fun j o d hj => by omega) hD
        have hX : Ctx E C ops σ.n D M S W Vv κ := by
          refine ⟨G, hC, hF, hD1, hD2, hbound, hV, hK, ?_⟩
          intro i o ho hq hw p hp hf1 hf2
          obtain ⟨x, hx, rfl, rfl⟩ := hrec i o ho
          have hxm : x ∈ L := List.mem_of_getElem? hx
          have hM : M x.i = x.m := by simp [M, hx]
          have hSx : S x.i = x.s := by simp [S, hx]
          have hVx : Vv x.i = x.v := by simp [Vv, hx]
          rw [hSx] at hw ⊢
          have hag1 := sagains_spec hag x hxm hq hw
          obtain ⟨m1, m2, m3⟩ := smods_mem (E := E) (n := ops.size) (σ := σ1) (L := L)
          have hfree : sfree ops.size x.i x.m p (smods E ops.size σ1 L) = true := by
            refine sfree_spec fun y hy hne => ?_
            rcases m3 y hy with rfl | ⟨z, hz, hqz, rfl⟩
            · exact absurd rfl hne
            · obtain ⟨k, hk⟩ := List.getElem?_of_mem hz
              have hkl : k < ops.size := by
                have := (List.getElem?_eq_some_iff.1 hk).1
                omega
              have hok : ops[k]? = some ops[k] := by simp
              obtain ⟨z', hz', hzo, hzi⟩ := hrec k _ hok
              rw [hk] at hz'
              cases hz'
              have hNz : NQ E ops z.i := ⟨ops[k], by rw [hzi]; exact hok, by rw [← hzo]; exact hqz⟩
              have hMz : M z.i = z.m := by rw [hzi]; simp [M, hk]
              refine ⟨fun hlt => ?_, fun hlt => ?_⟩
              · have := hf1 z.i hNz hlt
                rw [hMz] at this
                exact this
              · have := hf2 z.i hNz hlt
                rw [hM] at this
                exact this
          rcases hp with rfl | ⟨hpl, op, hop, hqp⟩
          · obtain ⟨σ', hs⟩ := sagain_spec hag1 _ m1 hfree
            rw [hWe, hVx]
            exact ⟨σ', hs⟩
          · obtain ⟨z, hz, hzo, hzi⟩ := hrec p op hop
            have hmem := m2 z (List.mem_of_getElem? hz) (by rw [hzo]; exact hqp)
            obtain ⟨σ', hs⟩ := sagain_spec hag1 _ hmem (by simp only; rw [hzi]; exact hfree)
            have hWz : W p = z.σ := by simp [W, hz]
            rw [hWz, hVx]
            exact ⟨σ', hs⟩
        refine wpIn_region_any G.mixed ?_
        have hgrow : Rel κ (W 0) { w with drawn := w.drawn + 1 } := by
          rw [hW0]
          have h1 : Rel κ σ { w with drawn := w.drawn + 1 } := hR.of_heap rfl
          exact ⟨Nat.le_trans h1.base (Nat.le_add_right _ _), h1.old, fun s bi h => ⟨Nat.lt_of_lt_of_le (h1.dom s bi h).1 (Nat.le_add_right _ _), (h1.dom s bi h).2⟩, h1.d0, h1.cont, h1.inj, fun s hs => h1.top s (Nat.le_trans (Nat.le_add_right _ _) hs)⟩
        have hpost : Post κ κ σ (W 0) { w with drawn := w.drawn + 1 } { w with drawn := w.drawn + 1 } := by
          rw [hW0]
          exact { Post.refl κ σ { w with drawn := w.drawn + 1 } with n := Nat.le_add_right _ _, others := fun _ _ _ => rfl, vers := fun s o' v' _ h hv => ⟨o', v', h, hv, Nat.le_refl _⟩, base := rfl, reuse := fun s bi h h' => by rw [h] at h'; cases h' }
        have hk0 : ∀ i, κ (σ.n + i) = none := by
          intro i
          cases hk : κ (σ.n + i) with
          | none => rfl
          | some b => have := (hR.dom _ _ hk).1; omega
        have hfi : FInv E ops S σ.n w.heap.size κ (W 0) { w with drawn := w.drawn + 1 } (Lst (Array.replicate ops.size false)) 0 := by
          have hnl : ∀ i v so, FL E ops S σ.n i v so → ¬ Lst (Array.replicate ops.size false) i := by
            intro i v so hf
            have := hf.lt
            unfold Lst
            simp [this]
          have hg0 : ∀ i, (W 0).get (σ.n + i) = none := fun i => by rw [hW0]; exact hR.top _ (Nat.le_add_right _ _)
          refine ⟨(by rw [hW0]; exact hR.base), fun i hi => (by rw [hW0]; show σ.n + i < σ.n + ops.size; omega), fun i v so _ _ o ho => (by rw [hg0] at ho; cases ho), fun i v so _ _ => ⟨hk0 i, fun _ => hg0 i⟩, fun i v so _ _ h => (by omega), fun i v so hf hd => absurd hd (hnl i v so hf), fun i v so j v' so' bi bj _ _ _ h1 _ => by rw [hk0] at h1; cases h1⟩
        refine draw_go hX (σ0 := σ) (w0 := { w with drawn := w.drawn + 1 }) rfl (fun s bi h => (hR.dom s bi h).1) (fun κ' a' w' h1 h2 h3 => ?_) _ _ _ _ ⟨by simp, fun i hi hl => ?_, ?_⟩ ?_
        · rw [hSe] at h1
          rw [hWe] at h2 h3
          exact hQ κ' a' w' h1 h2 (Post.of_heap (w2 := { w with drawn := w.drawn + 1 }) rfl rfl rfl rfl h3)
        · exfalso
          unfold Lst at hl
          simp [hi] at hl
        · obtain ⟨p, _, q2, q3⟩ := next_exists E ops ops.size 0 (by omega)
          have hps : p ≤ ops.size := by rcases q2 with h | h <;> omega
          obtain ⟨g1, g2, g3⟩ := text_on hF (done := Lst (Array.replicate ops.size false)) rfl (fun s bi h => (hR.dom s bi h).1) p 0 (by omega) (fun j a b => q3 j a (by omega)) hgrow hpost hfi
          rw [Nat.zero_add] at g1 g2 g3
          refine ⟨p, κ, ⟨q2, fun j hNj => ?_⟩, g1, g2, g3, by rw [hS0]; exact ha.tm.size, fun t => ?_, by rw [hS0]; exact ha.df⟩
          · obtain ⟨oj, hoj, hqj⟩ := hNj
            have hj := (Array.getElem?_eq_some_iff.1 hoj).1
            constructor
            · intro hh
              simp [hj] at hh
            · intro hjp
              exact absurd ⟨oj, hoj, hqj⟩ (q3 j (by omega) hjp)
          · have e : slotV D (S 0) Vv (Lst (Array.replicate ops.size false)) t = s.t.get t := by
              unfold slotV
              rw [hS0]
              cases hg : D.get t with
              | none => rfl
              | some j =>
                obtain ⟨oj, hoj, _⟩ := hD1 t j hg
                have hj := (Array.getElem?_eq_some_iff.1 hoj).1
                simp only
                rw [if_neg (by unfold Lst; simp [hj])]
            rw [e]
            exact ha.tm.vals t
        · simp

/-- EVERY CALL OF THE SHADOW IS A CALL OF THE PROGRAM's. -/
theorem shadow_sim {E : Env} (G : Good E) (k d : Nat) : CSim E (scall E k d) := call_sim G (fun _ hC => draw_sim G hC) k d
end Go.Sh
