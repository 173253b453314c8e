/- Every operation and every code of the shadow is followed by the program. Conditions: as each theorem names them. -/
import Derived.Test.YtffdpbhkkflgnaaGreatDoorShD
import Derived.OrdersIn

namespace Go.Sh
open Go

section
variable {P : Program} {E : Env} {κ : K} {σ : SW} {w : World}

/-! ## One new row of cells -/
theorem new_row {elem : TypeId} {c c' : Array Value} (hc : VA κ c c') {t : Sem Value} (ht : t.run P w = .ok (.pointer (some ⟨w.heap.size, 0, none⟩)) (w.alloc (.cells c elem))) (b : Nat) :
    NewV P κ w t b (.pointer (some ⟨b, 0, none⟩)) (.cells c'.toList elem true false 0) := by
  refine ⟨_, _, .cells c elem, c.size, ht, rfl, rfl, rfl, rfl, fun κ2 hle hk => ⟨?_, c, (0, 0), rfl, rfl, ?_, ?_, fun _ => ⟨rfl, ?_⟩, fun _ => .inl rfl⟩⟩
  · have := V.ptr (κ := κ2) (s := b) (off := 0) hk
    simpa using this
  · have := hc.size; simp only [Array.length_toList]; omega
  · simp only [List.drop_zero]
    rw [show c'.toList.length = c.toList.length by rw [← F2.length hc], List.take_length]
    exact F2.mono hc fun _ _ h => h.mono hle
  · have := hc.size; simp only [Array.length_toList]; omega

theorem r_sbox {t : TypeId} {x x' v' : Value} {b : Nat} {so : SObj} (hx : V κ x x') (h : sbox t x' b = some (v', so)) : NewV P κ w (Instr.box t x) b v' so := by
  simp only [sbox, Option.some.injEq, Prod.mk.injEq] at h
  obtain ⟨rfl, rfl⟩ := h
  exact new_row hx.cells rfl b

theorem r_salloc (hz : ZP E.P E.nt) {t : TypeId} {b : Nat} {v' : Value} {so : SObj} (h : salloc E t b = some (v', so)) : NewV E.P κ w (Instr.alloc t true (.tuple #[])) b v' so := by
  unfold salloc at h
  obtain ⟨hnt, h⟩ := of_guard_lt h
  cases hi : E.P.info? t with
  | none => rw [hi] at h; simp at h
  | some inf =>
    rw [hi] at h
    simp only at h
    cases hzz : inf.zero with
    | none => rw [hzz] at h; simp at h
    | some z =>
      rw [hzz] at h
      simp only [Option.some.injEq, Prod.mk.injEq] at h
      obtain ⟨rfl, rfl⟩ := h
      refine new_row (hz t inf z hnt hi hzz κ).cells ?_ b
      simp only [Instr.alloc, Sem.run_bind, r_zero hi hzz, Result.andThen]
      rfl

/-! ## Maps whose keys are strings or integers -/
theorem r_smakeMap {t : TypeId} {r r' : Option Value} (hr : OV κ r r') {b : Nat} {v' : Value} {so : SObj} (h : smakeMap E t r' b = some (v', so)) : NewV E.P κ w (Instr.makeMap t r) b v' so := by
  have fin : v' = .map (some b) → so = .map #[] 0 0 → (Instr.makeMap t r).run E.P w = .ok (.map (some w.heap.size)) (w.alloc (.map #[] 0)) → NewV E.P κ w (Instr.makeMap t r) b v' so := by
    rintro rfl rfl hrun
    exact ⟨_, _, .map #[] 0, 0, hrun, rfl, rfl, rfl, rfl, fun κ2 hle hk => ⟨.map hk, #[], rfl, .nil⟩⟩
  cases hr with
  | none =>
    simp only [smakeMap, Option.some.injEq, Prod.mk.injEq] at h
    exact fin h.1.symm h.2.symm rfl
  | some hx =>
    cases hu : E.P.underlying t with
    | none =>
      unfold smakeMap at h
      rw [hu] at h
      cases hx <;> simp at h
    | some d =>
      unfold smakeMap at h
      rw [hu] at h
      cases hx <;> first | (simp at h; done) | skip
      cases d <;> first | (simp at h; done) | skip
      simp only [Option.some.injEq, Prod.mk.injEq] at h
      refine fin h.1.symm h.2.symm ?_
      simp [Instr.makeMap, Sem.run_bind, r_under hu, Result.andThen, asInt, asIntOf, newObj, Sem.run]

theorem key_rel {kt : TypeId} {k k' e e' : Value} {r : Bool} (hk : V κ k k') (he : V κ e e') (hkind : skind E kt k' = true) (h : skeyEq k' e' = some r) :
    ∃ d, E.P.underlying kt = some d ∧ Instr.sameNow d k e = some r := by
  unfold skind at hkind
  cases hu : E.P.underlying kt with
  | none => rw [hu] at hkind; simp at hkind
  | some d =>
    rw [hu] at hkind
    refine ⟨d, rfl, ?_⟩
    cases hk <;> cases d <;> first | (simp at hkind; done) | skip
    · cases he <;> simp only [skeyEq, reduceCtorEq] at h
      rename_i kk n _ k2 n2
      cases hb : kbeq kk k2 with
      | false => rw [hb] at h; simp at h
      | true =>
        rw [hb] at h
        simp only [Option.some.injEq] at h
        obtain rfl := kbeq_eq hb
        simp only [Instr.sameNow, if_true, ← h, ibeq_eq]
    · cases he <;> simp only [skeyEq, Option.some.injEq, reduceCtorEq] at h
      rw [beqBytes_eq, ← ba_beq] at h
      simp only [Instr.sameNow, h]

theorem check_kind {kt : TypeId} {k k' : Value} (hk : V κ k k') (hkind : skind E kt k' = true) (em : Bool) : (Instr.checkKey em 10000 kt k).run E.P w = .ok () w := by
  unfold skind at hkind
  cases hu : E.P.underlying kt with
  | none => rw [hu] at hkind; simp at hkind
  | some d =>
    rw [hu] at hkind
    have hd : (10000 : Nat) = 9999 + 1 := rfl
    cases hk <;> cases d <;> first | (simp at hkind; done) | skip
    all_goals
      rw [hd]
      generalize (9999 : Nat) = dep
      simp [Instr.checkKey, Sem.run_bind, r_under hu, Result.andThen]

/-- What is found is at the same place, and related. -/
inductive FR (κ : K) : Option (Nat × Value) → Option (Nat × Value) → Prop
  | none : FR κ none none
  | some {i : Nat} {v v' : Value} : V κ v v' → FR κ (some (i, v)) (some (i, v'))

theorem find_rel {kt : TypeId} {k k' : Value} (hk : V κ k k') (hkind : skind E kt k' = true) {d : TypeDesc} (hu : E.P.underlying kt = some d) :
    ∀ {es es' : List MapEntry} (i : Nat) {r' : Option (Nat × Value)}, F2 (ER κ) es es' → sfind k' es' i = some r' → ∃ r, Instr.findNow d k es i = some r ∧ FR κ r r' := by
  intro es es' i r' hes
  induction hes generalizing i with
  | nil =>
    intro h
    simp only [sfind, Option.some.injEq] at h
    subst h
    exact ⟨none, rfl, .none⟩
  | @cons e e' es es' he _ ih =>
    intro h
    simp only [sfind] at h
    cases hq : skeyEq k' e'.key with
    | none => rw [hq] at h; simp at h
    | some q =>
      obtain ⟨d', hd', hs⟩ := key_rel hk he.key hkind hq
      rw [hu] at hd'; cases hd'
      rw [hq] at h
      cases q with
      | true =>
        simp only [Option.some.injEq] at h
        subst h
        exact ⟨some (i, e.val), by simp only [Instr.findNow, hs], .some he.val⟩
      | false =>
        simp only at h
        obtain ⟨r, h1, h2⟩ := ih (i + 1) h
        exact ⟨r, by simp only [Instr.findNow, hs]; exact h1, h2⟩

theorem run_find {kt : TypeId} {d : TypeDesc} {k : Value} {es : List MapEntry} {r : Option (Nat × Value)} (hu : E.P.underlying kt = some d) (h : Instr.findNow d k es 0 = some r) :
    (Instr.findKey kt k es).run E.P w = .ok r w := by
  simp only [Instr.findKey, Sem.run_bind, r_under hu, Result.andThen, h, Sem.run_pure]

theorem skind_under {kt : TypeId} {k : Value} (h : skind E kt k = true) : ∃ d, E.P.underlying kt = some d := by
  unfold skind at h
  cases hu : E.P.underlying kt with
  | none => rw [hu] at h; simp at h
  | some d => exact ⟨d, rfl⟩

theorem sheld_rel {v v' : Value} (h : V κ v v') (ok : Bool) : V κ (if ok then .tuple #[v, .bool true] else v) (sheld v' ok) := by
  cases ok
  · exact h
  · exact .tuple' (.cons h (.cons (.bool _) .nil))

theorem r_slookup (hz : ZP E.P E.nt) (hR : Rel κ σ w) {t : TypeId} {x x' k k' v' : Value} {ok : Bool} (hx : V κ x x') (hk : V κ k k') (h : slookup E t x' k' ok σ = some v') :
    ∃ v, (Instr.lookup t x k ok).run E.P w = .ok v w ∧ V κ v v' := by
  unfold slookup at h
  cases hu : E.P.underlying t with
  | none => rw [hu] at h; simp at h
  | some d =>
    rw [hu] at h
    cases d with
    | map kt et =>
      cases hes : sentries x' σ with
      | none => rw [hes] at h; simp at h
      | some es' =>
        rw [hes] at h
        simp only at h
        cases hkind : skind E kt k' with
        | false => rw [hkind] at h; simp at h
        | true =>
          rw [hkind] at h
          obtain ⟨dk, hdk⟩ := skind_under hkind
          -- the entries
          have hent : ∃ es : Array MapEntry, F2 (ER κ) es.toList es' ∧ ((x = .map none ∧ es = #[]) ∨ ∃ r clk, x = .map (some r) ∧ w.heap[r]? = some (.map es clk)) := by
            cases hx <;> simp only [sentries, reduceCtorEq, Option.some.injEq] at hes
            · subst hes
              exact ⟨#[], .nil, .inl ⟨rfl, rfl⟩⟩
            · rename_i s bi hks
              cases hg : σ.get s with
              | none => rw [hg] at hes; simp at hes
              | some o =>
                rw [hg] at hes
                cases o <;> simp only [reduceCtorEq, Option.some.injEq] at hes
                subst hes
                obtain ⟨es, h1, h2⟩ := hR.cont _ _ _ hks hg
                exact ⟨es, h2, .inr ⟨_, _, rfl, h1⟩⟩
          obtain ⟨es, hF, hshape⟩ := hent
          have run : ∀ (r : Option (Nat × Value)) (u : Value), (Instr.findKey kt k es.toList).run E.P w = .ok r w →
              (match r with | some (_, v) => u = v | none => (zeroValue et).run E.P w = .ok u w) →
              (Instr.lookup t x k ok).run E.P w = .ok (if ok then .tuple #[u, .bool r.isSome] else u) w := by
            intro r u h1 h2
            have h0 : (Instr.lookup t x k ok).run E.P w = (match r with
              | some (_, v) => (pure (if ok then .tuple #[v, .bool true] else v) : Sem Value)
              | none => do let z ← zeroValue et; pure (if ok then .tuple #[z, .bool false] else z)).run E.P w := by
              rcases hshape with ⟨rfl, rfl⟩ | ⟨q, clk, rfl, hq⟩
              · simp only [Instr.lookup, Sem.run_bind, r_under hu, Result.andThen, Sem.run_pure, check_kind hk hkind]
                rw [h1]
                cases r with
                | none => simp only at h2; cases ok <;> simp [Result.andThen, h2]
                | some p => cases ok <;> rfl
              · simp only [Instr.lookup, Sem.run_bind, r_under hu, Result.andThen, Sem.run_pure, check_kind hk hkind, Go.getObj, Sem.run, hq]
                rw [h1]
                cases r with
                | none => simp only at h2; cases ok <;> simp [Result.andThen, h2]
                | some p => cases ok <;> rfl
            rw [h0]
            cases r with
            | none => simp only at h2; cases ok <;> simp [Result.andThen, h2]
            | some p => simp only at h2; subst h2; rfl
          cases hf : sfind k' es' 0 with
          | none => rw [hf] at h; simp at h
          | some r' =>
            rw [hf] at h
            obtain ⟨r, hr1, hr2⟩ := find_rel hk hkind hdk 0 hF hf
            have hrun := run_find (w := w) hdk hr1
            cases hr2 with
            | none =>
              simp only at h
              cases hzz : sguarded (Nat.blt et E.nt) ((E.P.info? et).bind (·.zero)) with
              | none => rw [hzz] at h; simp at h
              | some z =>
                rw [hzz] at h
                simp only [Option.some.injEq] at h
                obtain ⟨hnt, hzz⟩ := of_guard_lt hzz
                cases hi : E.P.info? et with
                | none => rw [hi] at hzz; simp at hzz
                | some inf =>
                  rw [hi] at hzz
                  simp only [Option.bind_some] at hzz
                  refine ⟨_, run _ z hrun (r_zero hi hzz), ?_⟩
                  have hzv := hz et inf z hnt hi hzz κ
                  subst h
                  cases ok
                  · exact hzv
                  · exact .tuple' (.cons hzv (.cons (.bool _) .nil))
            | some hv =>
              simp only [Option.some.injEq] at h
              subst h
              exact ⟨_, run _ _ hrun rfl, sheld_rel hv ok⟩
    | _ => simp at h

theorem find_at {k' : Value} : ∀ {es' : List MapEntry} {i j : Nat} {v : Value}, sfind k' es' i = some (some (j, v)) → i ≤ j ∧ ∃ e, es'[j - i]? = some e ∧ skeyEq k' e.key = some true
  | [], i, j, v, h => by simp [sfind] at h
  | e :: es', i, j, v, h => by
    simp only [sfind] at h
    cases hq : skeyEq k' e.key with
    | none => rw [hq] at h; simp at h
    | some q =>
      rw [hq] at h
      cases q with
      | true =>
        simp only [Option.some.injEq, Prod.mk.injEq] at h
        obtain ⟨rfl, _⟩ := h
        exact ⟨Nat.le_refl _, e, by simp, hq⟩
      | false =>
        simp only at h
        obtain ⟨h1, e2, h2, h3⟩ := find_at h
        refine ⟨by omega, e2, ?_, h3⟩
        rw [show j - i = (j - (i + 1)) + 1 by omega]
        simpa using h2

theorem set_at_rel {k k' v v' : Value} (hk : V κ k k') (hv : V κ v v') : ∀ {es es' : List MapEntry} (i : Nat), F2 (ER κ) es es' →
    F2 (ER κ) (es.modify i fun e => { e with key := k, val := v }) (ssetAt k' v' es' i) := by
  intro es es' i h
  induction h generalizing i with
  | nil => cases i <;> exact .nil
  | cons he t ih =>
    cases i with
    | zero => exact .cons ⟨hk, hv, he.born⟩ t
    | succ i => exact .cons he (ih i)

theorem r_smapUpdate (hR : Rel κ σ w) {t : TypeId} {x x' k k' v v' : Value} {σ' : SW} (hx : V κ x x') (hk : V κ k k') (hv : V κ v v') (h : smapUpdate E t x' k' v' σ = some σ') :
    ∃ w1, (Instr.mapUpdate t x k v).run E.P w = .ok () w1 ∧ Rel κ σ' w1 ∧ Post κ κ σ σ' w w1 := by
  unfold smapUpdate at h
  cases hu : E.P.underlying t with
  | none => rw [hu] at h; simp at h
  | some d =>
    rw [hu] at h
    cases d <;> first | (simp at h; done) | skip
    rename_i kt et
    cases hx <;> simp only [reduceCtorEq] at h
    rename_i s bi hks
    cases hkind : skind E kt k' with
    | false => rw [hkind] at h; simp at h
    | true =>
      rw [hkind] at h
      obtain ⟨dk, hdk⟩ := skind_under hkind
      cases hg : σ.get s with
      | none => rw [hg] at h; simp at h
      | some o =>
        rw [hg] at h
        cases o <;> simp only [reduceCtorEq] at h
        rename_i es' clk ver
        obtain ⟨es, h1, hF⟩ := hR.cont _ _ _ hks hg
        have hlt := (hR.dom _ _ hks).2
        have fin : ∀ (es2 : Array MapEntry) (es2' : List MapEntry) (c2 : Nat), F2 (ER κ) es2.toList es2' → σ' = σ.setObj s (.map ⟨es2'⟩ c2 (ver + 1)) → (Instr.mapUpdate t (.map (some bi.r)) k v).run E.P w = .ok () (w.putObj bi.r (.map es2 c2)) →
            ∃ w1, (Instr.mapUpdate t (.map (some bi.r)) k v).run E.P w = .ok () w1 ∧ Rel κ σ' w1 ∧ Post κ κ σ σ' w w1 := by
          rintro es2 es2' c2 hF2 rfl hrun
          obtain ⟨hR1, hP1⟩ := hR.upd (w' := w.putObj bi.r (.map es2 c2)) (o' := .map ⟨es2'⟩ c2 (ver + 1)) hks hg (v := ver) rfl (by intro u hu; simp only [Sh.ver, Option.some.injEq] at hu; omega)
            (heap_set_size _ _ _) (fun x hx => heap_set_ne _ _ hx) rfl rfl rfl ⟨es2, heap_set_same _ _ hlt, hF2⟩
          exact ⟨_, hrun, hR1, hP1⟩
        have hput : ∀ o2 : Obj, (setObj bi.r o2).run E.P w = .ok () (w.putObj bi.r o2) := by
          intro o2
          simp only [Go.setObj, Sem.run, h1]
          rfl
        have hpre : ∀ r, Instr.findNow dk k es.toList 0 = some r → ∀ w1, ((match r with
            | some (i, _) => do
              let key ← Instr.keyThatStays (((es[i]?).map (·.key)).getD k) k
              setObj bi.r (.map (es.modify i fun e => { e with key, val := v }) clk)
            | none => setObj bi.r (.map (es.push { key := k, val := v, born := clk }) (clk + 1)) : Sem Unit).run E.P w = .ok () w1) → (Instr.mapUpdate t (.map (some bi.r)) k v).run E.P w = .ok () w1 := by
          intro r hr w1 hw1
          simp only [Instr.mapUpdate, Sem.run_bind, r_under hu, Result.andThen, Go.getObj, Sem.run, h1, check_kind hk hkind, run_find hdk hr]
          exact hw1
        cases hf : sfind k' es'.toList 0 with
        | none => rw [hf] at h; simp at h
        | some r' =>
          rw [hf] at h
          obtain ⟨r, hr1, hr2⟩ := find_rel hk hkind hdk 0 hF hf
          cases hr2 with
          | none =>
            simp only [Option.some.injEq] at h
            refine fin (es.push ⟨k, v, clk⟩) (es'.toList ++ [⟨k', v', clk⟩]) (clk + 1) ?_ h.symm (hpre _ hr1 _ (hput _))
            rw [Array.toList_push]
            exact hF.append (.cons ⟨hk, hv, rfl⟩ .nil)
          | @some i u u' huv =>
            simp only [Option.some.injEq] at h
            obtain ⟨_, e', he', hq⟩ := find_at hf
            simp only [Nat.sub_zero] at he'
            obtain ⟨e, he, her⟩ := F2.get hF he'
            have hek : es[i]? = some e := by simpa using he
            obtain ⟨d', hd', hsame⟩ := key_rel hk her.key hkind hq
            have hbs : ∀ a b : ByteArray, (a == b) = true → Instr.sameBits 10000 (.string b) (.string a) = true := by
              intro a b h
              rw [ba_beq] at h
              generalize (10000 : Nat) = dep
              unfold Instr.sameBits
              rw [ba_beq, ← eq_of_beq h]
              simp
            have hbits : Instr.sameBits 10000 e.key k = true := by
              have hkk := her.key
              unfold skind at hkind
              rw [hd'] at hkind
              generalize e.key = ek at hsame hkk
              cases hk <;> cases d' <;> first | (simp at hkind; done) | skip
              · cases ek <;> simp only [Instr.sameNow, reduceCtorEq] at hsame
                rename_i kk n _ k2 n2
                by_cases hkk2 : kk = k2
                · subst hkk2
                  simp only [if_true, Option.some.injEq] at hsame
                  have := eq_of_beq hsame
                  subst this
                  simp [Instr.sameBits]
                · simp [hkk2] at hsame
              · cases ek <;> simp only [Instr.sameNow, Option.some.injEq, reduceCtorEq] at hsame
                exact hbs _ _ hsame
            refine fin (es.modify i fun e => { e with key := k, val := v }) _ clk ?_ h.symm (hpre _ hr1 _ ?_)
            · rw [Array.toList_modify]
              exact set_at_rel hk hv i hF
            · simp only [Sem.run_bind, hek, Option.map_some, Option.getD_some, Instr.keyThatStays, hbits, if_true, Sem.run_pure, Result.andThen]
              exact hput _
end
end Go.Sh

namespace Go.Sh
open Go

section
variable {P : Program} {E : Env} {κ : K} {σ : SW} {w : World}

theorem skeep_some {ov : Option Value} {v' : Value} {σ' : SW} (h : skeep σ ov = some (v', σ')) : ov = some v' ∧ σ' = σ := by
  cases ov with
  | none => simp [skeep] at h
  | some v => simp only [skeep, Option.some.injEq, Prod.mk.injEq] at h; exact ⟨by rw [h.1], h.2.symm⟩

theorem run_skip {t : Sem Unit} {w1 : World} (h : t.run P w = .ok () w1) : (do t; pure Next.skip : Sem Next).run P w = .ok .skip w1 := by
  rw [Sem.run_bind, h]; rfl

theorem spush_some {ov : Option (Value × SObj)} {v' : Value} {σ' : SW} (h : spush σ ov = some (v', σ')) : ∃ so, ov = some (v', so) ∧ σ' = σ.push so := by
  cases ov with
  | none => simp [spush] at h
  | some x =>
    obtain ⟨v, o⟩ := x
    simp only [spush, Option.some.injEq, Prod.mk.injEq] at h
    exact ⟨o, by rw [h.1], h.2.symm⟩

/-- What makes one new object makes it in any memory. -/
theorem r_float (G : Good E) {o : Oper} {a : Act} {s : SAct} (he : ∀ x ∈ o.op.operands.toList, V κ (a.eval x) (s.eval x)) {b : Nat} {v' : Value} {so : SObj} (h : sfloat E o.op s b = some (v', so)) :
    ∃ t : Sem Value, execOp a.eval o = (do pure (Next.value (← t))) ∧ NewV E.P κ w t b v' so := by
  have prt : ∀ (l : Array (Nat × Operand)), (∀ y ∈ l.toList, V κ (a.eval y.2) (s.eval y.2)) → F2 (fun x y => x.1 = y.1 ∧ V κ x.2 y.2) (l.map fun (i, x) => (i, a.eval x)).toList (sparts s l) := by
    intro l hl
    unfold sparts
    rw [Array.toList_map]
    exact F2.mapSame _ _ _ fun c hc => ⟨rfl, hl c hc⟩
  have opt : ∀ (x : Option Operand), (∀ y, x = some y → V κ (a.eval y) (s.eval y)) → OV κ (x.map a.eval) (x.map s.eval) := by
    intro x hx
    cases x with
    | none => exact .none
    | some y => exact .some (hx y rfl)
  unfold sfloat at h
  cases hop : o.op <;> rw [hop] at h he <;> simp only at h <;> first | (simp at h; done) | skip
  all_goals simp only [Op.operands] at he
  case makeSlice t l c => exact ⟨_, by simp only [execOp, hop], r_make G.zp (he l (by simp)) (he c (by simp)) h⟩
  case buildSlice t len parts => exact ⟨_, by simp only [execOp, hop], r_buildSlice G.zp (prt parts fun y hy => he y.2 (List.mem_map.2 ⟨y, hy, rfl⟩)) h⟩
  case makeMap t r => exact ⟨_, by simp only [execOp, hop], r_smakeMap (opt r fun y hy => he y (by simp [hy])) h⟩
  case alloc t => exact ⟨_, by simp only [execOp, hop], r_salloc G.zp h⟩
  case box t x => exact ⟨_, by simp only [execOp, hop], r_sbox (he x (by simp)) h⟩

theorem va_args {l : Array Operand} {a : Act} {s : SAct} (h : ∀ x ∈ l.toList, V κ (a.eval x) (s.eval x)) : VA κ (l.map a.eval) (sargs s l) := by
  unfold VA sargs
  rw [Array.toList_map]
  exact F2.mapSame _ _ _ h

theorem guard_cases (op : BinOp) : (op = .eql ∨ op = .neq) ∨ ∀ (_ : Program) (_ : World) (t : TypeId) (x y : Operand) (a b : Value), eqGuard op t x y a b = pure () := by
  cases op <;> first | exact .inl (.inl rfl) | exact .inl (.inr rfl) | exact .inr fun _ _ _ _ _ _ _ => rfl

theorem r_guard {op : BinOp} {t : TypeId} {x y : Operand} {a b : Value} (h1 : ¬ (a = .nilIface ∧ b = .nilIface)) (h2 : ∀ c d, ¬ (a = .agg c ∧ b = .agg d)) : (eqGuard op t x y a b).run P w = .ok () w := by
  rcases guard_cases op with h | h
  · have : eqGuard op t x y a b = pure () := by
      unfold eqGuard
      rcases h with rfl | rfl <;> dsimp only [Bool.not_true] <;> rw [if_neg (by simp)] <;>
      (split
       · exact absurd ⟨rfl, rfl⟩ h1
       · exact absurd ⟨rfl, rfl⟩ (h2 _ _)
       · rfl)
    rw [this]; rfl
  · rw [h P w]; rfl

theorem nm_guard {op : BinOp} {t : TypeId} {x y : Operand} {k k' : IntKind} {a b : Int} : NM P (fun _ => True) (eqGuard op t x y (.int k a) (.int k' b)) := by
  have : eqGuard op t x y (.int k a) (.int k' b) = pure () := by cases op <;> rfl
  rw [this]
  exact .pure trivial

theorem r_seq (t : TypeId) {x y : Operand} {a b a' b' : Value} {r : Bool} {op : BinOp} (hop : op = .eql ∨ op = .neq) (ha : V κ a a') (hb : V κ b b') (h : seq E t x y a' b' = some r) :
    (eqGuard op t x y a b).run E.P w = .ok () w ∧ (Op.equal t a b).run E.P w = .ok r w := by
  unfold seq at h
  cases hg : sguard E.P t x y a' b' with
  | false => rw [hg] at h; simp at h
  | true =>
    rw [hg] at h
    refine ⟨?_, r_seqv 30 Op.maxDepth t a b a' b' r (by decide) ha hb h⟩
    by_cases h1 : a = .nilIface ∧ b = .nilIface
    · obtain ⟨rfl, rfl⟩ := h1
      cases ha; cases hb
      have hms : (∃ v, x = .const v) ∨ (∃ v, y = .const v) ∨ ∃ ms, E.P.underlying t = some (.interface ms) ∧ ms.isEmpty = true := by
        simp only [sguard] at hg
        cases x <;> cases y <;> first
          | exact .inl ⟨_, rfl⟩
          | exact .inr (.inl ⟨_, rfl⟩)
          | (cases hu : E.P.underlying t with
             | none => rw [hu] at hg; simp at hg
             | some d => rw [hu] at hg; cases d <;> first | (simp at hg; done) | exact .inr (.inr ⟨_, rfl, by simpa using hg⟩))
      rcases hms with ⟨v, rfl⟩ | ⟨v, rfl⟩ | ⟨ms, hu, hem⟩
      · rcases hop with rfl | rfl <;> rfl
      · rcases hop with rfl | rfl <;> cases x <;> rfl
      · have hd : Op.maxDepth = 9999 + 1 := rfl
        have hrun : (Op.eqGuardIn Op.maxDepth t .nilIface .nilIface).run E.P w = .ok false w := by
          rw [hd]
          unfold Op.eqGuardIn
          simp [Sem.run_bind, r_under hu, Result.andThen, hem]
        rcases hop with rfl | rfl <;> cases x <;> cases y <;> first | rfl | simp [eqGuard, Sem.run_bind, hrun, Result.andThen]
    · by_cases h2 : ∃ c d, a = .agg c ∧ b = .agg d
      · obtain ⟨c, d, rfl, rfl⟩ := h2
        cases ha; cases hb
        simp only [sguard] at hg
        have hge : E.P.eqGuardType E.P.depth t = false := by simpa using hg
        rcases hop with rfl | rfl <;> simp [eqGuard, Sem.run_bind, program, Sem.run, Result.andThen, hge]
      · exact r_guard h1 fun c d hcd => h2 ⟨c, d, hcd⟩

theorem r_binOp (hR : Rel κ σ w) {o : Oper} {a : Act} {s : SAct} {op : BinOp} {t : TypeId} {x y : Operand} {_b : Option TypeId} (ho : ∀ ρ : Operand → Value, execOp ρ o = do pure (.value (← (do eqGuard op t x y (ρ x) (ρ y); binOp op t (ρ x) (ρ y)))))
    (hx : V κ (a.eval x) (s.eval x)) (hy : V κ (a.eval y) (s.eval y)) {v' : Value} {σ' : SW} (h : sbinOp E o s op t x y σ = some (v', σ')) :
    SimC E.P κ σ w (execOp a.eval o) v' σ' := by
  have fin : ∀ v', Plain v' → σ' = σ → (eqGuard op t x y (a.eval x) (a.eval y)).run E.P w = .ok () w → (binOp op t (a.eval x) (a.eval y)).run E.P w = .ok v' w → SimC E.P κ σ w (execOp a.eval o) v' σ' := by
    rintro v' hp rfl h1 h2
    rw [ho]
    exact SimC.of_v (SimV.still hR ⟨v', by rw [Sem.run_bind, h1]; exact h2, hp κ⟩)
  have gen : ∀ (k k' : IntKind) (n n' : Int), s.eval x = .int k n → s.eval y = .int k' n' → sgen E o s σ = some (v', σ') → SimC E.P κ σ w (execOp a.eval o) v' σ' := by
    intro k k' n n' e1 e2 hg
    rw [e1] at hx
    rw [e2] at hy
    have f1 : a.eval x = .int k n := by generalize a.eval x = u at hx; cases hx; rfl
    have f2 : a.eval y = .int k' n' := by generalize a.eval y = u at hy; cases hy; rfl
    have heq : execOp a.eval o = execOp s.eval o := by rw [ho, ho, f1, f2, e1, e2]
    unfold sgen at hg
    refine SimC.of_TR hR (t' := execOp s.eval o) ?_ hg
    rw [heq, ho, e1, e2]
    refine NV.of_TR (tr_of_NM (Q := Plain) ?_ fun κ' v hv => hv κ')
    exact nm_bind nm_guard fun _ _ => nm_binInt _ _ _ _ _ _
  unfold sbinOp at h
  generalize hxe : s.eval x = x' at *
  generalize hye : s.eval y = y' at *
  generalize hax : a.eval x = xr at *
  generalize hay : a.eval y = yr at *
  have str : ∀ p q, x' = .string p → y' = .string q → (match sstring op p q with | some v => some (v, σ) | none => none) = some (v', σ') → SimC E.P κ σ w (execOp a.eval o) v' σ' := by
    rintro p q rfl rfl h
    cases hx; cases hy
    cases hs : sstring op p q with
    | none => rw [hs] at h; simp at h
    | some v =>
      rw [hs] at h
      simp only [Option.some.injEq, Prod.mk.injEq] at h
      obtain ⟨rfl, rfl⟩ := h
      obtain ⟨h1, h2⟩ := r_sstring (E := E) (w := w) (t := t) hs
      exact fin v h2 rfl (r_guard (by simp) (by simp)) h1
  have ints : ∀ k k' p q, x' = .int k p → y' = .int k' q → (match (match kbeq k k' with | true => sint op k p q | false => none) with | some v => some (v, σ) | none => sgen E o s σ) = some (v', σ') → SimC E.P κ σ w (execOp a.eval o) v' σ' := by
    rintro k k' p q rfl rfl h
    cases hs : (match kbeq k k' with | true => sint op k p q | false => none) with
    | none => rw [hs] at h; exact gen _ _ _ _ rfl rfl h
    | some v =>
      rw [hs] at h
      simp only [Option.some.injEq, Prod.mk.injEq] at h
      obtain ⟨rfl, rfl⟩ := h
      cases hk : kbeq k k' with
      | false => rw [hk] at hs; simp at hs
      | true =>
        rw [hk] at hs
        obtain rfl : k = k' := by cases k <;> cases k' <;> first | rfl | (simp [kbeq] at hk; done)
        cases hx; cases hy
        obtain ⟨h1, h2⟩ := r_sint (E := E) (w := w) (t := t) hs
        exact fin v h2 rfl (r_guard (by simp) (by simp)) h1
  have rest : (match op with | .eql => (match seq E t x y x' y' with | some b => some (.bool b, σ) | none => none) | .neq => (match seq E t x y x' y' with | some b => some (.bool (!b), σ) | none => none) | _ => none) = some (v', σ') →
      (binOp .eql t xr yr = (do pure (.bool (← Op.equal t xr yr))) ∧ binOp .neq t xr yr = (do pure (.bool (!(← Op.equal t xr yr))))) → SimC E.P κ σ w (execOp a.eval o) v' σ' := by
    intro h hb
    cases op <;> first | (simp at h; done) | skip
    · simp only at h
      cases hs : seq E t x y x' y' with
      | none => rw [hs] at h; simp at h
      | some r =>
        rw [hs] at h
        simp only [Option.some.injEq, Prod.mk.injEq] at h
        obtain ⟨rfl, rfl⟩ := h
        obtain ⟨h1, h2⟩ := r_seq (w := w) (op := .eql) t (.inl rfl) hx hy hs
        refine fin _ (fun κ => .bool _) rfl h1 ?_
        rw [hb.1]
        simp [h2, Result.andThen]
    · simp only at h
      cases hs : seq E t x y x' y' with
      | none => rw [hs] at h; simp at h
      | some r =>
        rw [hs] at h
        simp only [Option.some.injEq, Prod.mk.injEq] at h
        obtain ⟨rfl, rfl⟩ := h
        obtain ⟨h1, h2⟩ := r_seq (w := w) (op := .neq) t (.inr rfl) hx hy hs
        refine fin _ (fun κ => .bool _) rfl h1 ?_
        rw [hb.2]
        simp [h2, Result.andThen]
  cases hx <;> cases hy <;> first
    | exact str _ _ rfl rfl h
    | exact ints _ _ _ _ rfl rfl h
    | (simp at h; done)
    | exact rest h ⟨rfl, rfl⟩

theorem r_sop (G : Good E) {C : SCall} (hC : CSim E C) (hK : GK E κ) (hR : Rel κ σ w) {o : Oper} {a : Act} {s : SAct} (he : ∀ x ∈ o.op.operands.toList, V κ (a.eval x) (s.eval x)) {v' : Value} {σ' : SW} (h : sop E C o s σ = some (v', σ')) :
    SimC E.P κ σ w (execOp a.eval o) v' σ' := by
  have opt : ∀ (x : Option Operand), (∀ y, x = some y → V κ (a.eval y) (s.eval y)) → OV κ (x.map a.eval) (x.map s.eval) := by
    intro x hx
    cases x with
    | none => exact .none
    | some y => exact .some (hx y rfl)
  have prt : ∀ (l : Array (Nat × Operand)), (∀ y ∈ l.toList, V κ (a.eval y.2) (s.eval y.2)) → F2 (fun x y => x.1 = y.1 ∧ V κ x.2 y.2) (l.map fun (i, x) => (i, a.eval x)).toList (sparts s l) := by
    intro l hl
    unfold sparts
    rw [Array.toList_map]
    exact F2.mapSame _ _ _ fun c hc => ⟨rfl, hl c hc⟩
  have flt : ∀ {ov : Option (Value × SObj)}, ov = sfloat E o.op s σ.n → spush σ ov = some (v', σ') → SimC E.P κ σ w (execOp a.eval o) v' σ' := by
    rintro ov rfl hs
    obtain ⟨so, h1, rfl⟩ := spush_some hs
    obtain ⟨t, h2, h3⟩ := r_float (w := w) G he h1
    rw [h2]
    exact SimC.of_v (SimV.of_new hR h3)
  have he0 := he
  unfold sop at h
  cases hop : o.op <;> rw [hop] at h he flt <;> simp only at h <;> first | (simp at h; done) | skip
  all_goals simp only [Op.operands] at he
  case move x =>
    simp only [Option.some.injEq, Prod.mk.injEq] at h
    obtain ⟨rfl, rfl⟩ := h
    exact SimC.of_same (SimC.pure hR (he x (by simp))) (by simp only [execOp, hop])
  case assign x =>
    simp only [Option.some.injEq, Prod.mk.injEq] at h
    obtain ⟨rfl, rfl⟩ := h
    exact SimC.of_same (SimC.pure hR (he x (by simp))) (by simp only [execOp, hop])
  case pick c x y =>
    have hc := he c (by simp)
    generalize hcs : s.eval c = c' at h hc
    generalize hca : a.eval c = cr at hc
    cases hc <;> first | (simp at h; done) | skip
    rename_i b
    cases b <;> simp only [Option.some.injEq, Prod.mk.injEq] at h <;> obtain ⟨rfl, rfl⟩ := h
    · exact SimC.of_same (SimC.pure hR (he y (by simp))) (by simp [execOp, hop, hca, asBool])
    · exact SimC.of_same (SimC.pure hR (he x (by simp))) (by simp [execOp, hop, hca, asBool])
  case makeSlice t l c => exact flt rfl h
  case buildSlice t len parts => exact flt rfl h
  case makeMap t r => exact flt rfl h
  case alloc t => exact flt rfl h
  case box t x => exact flt rfl h
  case lookup t x k ok =>
    replace h := skeep_some h
    obtain ⟨h, rfl⟩ := h
    exact SimC.of_same (SimC.of_v (SimV.still hR (r_slookup G.zp hR (he x (by simp)) (he k (by simp)) h))) (by simp only [execOp, hop])
  case mapUpdate t m k v =>
    cases hs : smapUpdate E t (s.eval m) (s.eval k) (s.eval v) σ with
    | none => rw [hs] at h; simp at h
    | some σ1 =>
      rw [hs] at h
      simp only [Option.some.injEq, Prod.mk.injEq] at h
      obtain ⟨rfl, rfl⟩ := h
      obtain ⟨w1, h1, h2, h3⟩ := r_smapUpdate hR (he m (by simp)) (he k (by simp)) (he v (by simp)) hs
      refine ⟨.skip, w1, ?_, rfl, κ, h2, h3⟩
      simp only [execOp, hop]
      exact run_skip h1
  case build t parts =>
    replace h := skeep_some h
    obtain ⟨h, rfl⟩ := h
    refine SimC.of_same (SimC.of_v (SimV.still hR (r_build G.zp G.fp (prt parts fun y hy => he y.2 (List.mem_map.2 ⟨y, hy, rfl⟩)) h))) (by simp only [execOp, hop])
  case load t x =>
    obtain ⟨rfl, hv⟩ := r_loadAt hR (he x (by simp)) h
    exact SimC.of_same (SimC.of_v (SimV.still hR hv)) (by simp only [execOp, hop])
  case store t x v =>
    cases hs : sstore E t (s.eval x) (s.eval v) σ with
    | none => rw [hs] at h; simp at h
    | some σ1 =>
      rw [hs] at h
      simp only [Option.some.injEq, Prod.mk.injEq] at h
      obtain ⟨rfl, rfl⟩ := h
      obtain ⟨w1, h1, h2, h3⟩ := r_storeAt hR (he x (by simp)) (he v (by simp)) hs
      refine ⟨.skip, w1, ?_, rfl, κ, h2, h3⟩
      simp only [execOp, hop]
      exact run_skip h1
  case nilCheck x =>
    replace h := skeep_some h
    obtain ⟨h, rfl⟩ := h
    have hx := he x (by simp)
    generalize hxs : s.eval x = x' at h hx
    generalize hxa : a.eval x = xr at hx
    have fin : ∀ u, xr = u → x' = v' → (∀ w, (execOp a.eval o).run E.P w = .ok (.value u) w) → SimC E.P κ σ' w (execOp a.eval o) v' σ' := by
      rintro u rfl rfl hr
      exact ⟨_, w, hr w, κ, hx, hR, Post.refl _ _ _⟩
    cases hx <;> first | (simp [snil] at h; done) | skip
    case func hf _ _ _ _ =>
      cases hf <;> first
        | (simp [snil] at h; done)
        | (refine fin _ rfl (by simpa [snil] using h) fun w => ?_
           simp only [execOp, hop, hxa]; rfl)
    all_goals
      refine fin _ rfl (by simpa [snil] using h) fun w => ?_
      simp only [execOp, hop, hxa]; rfl
  case binOp op t x y ft =>
    exact r_binOp hR (_b := none) (fun ρ => by simp only [execOp, hop]) (he x (by simp)) (he y (by simp)) h
  case unOp op t x =>
    unfold sgen at h
    refine SimC.of_TR hR (t' := execOp s.eval o) ?_ h
    simp only [execOp, hop]
    refine NV.of_TR ?_
    have hx := he x (by simp)
    generalize s.eval x = x' at hx
    generalize a.eval x = xr at hx
    cases hx <;> first
      | exact tr_of_NM (Q := Plain) (nm_unary op _ trivial) fun κ' v hv => hv κ'
      | (unfold Op.unary; cases op <;> exact tr_stuckR)
      | (unfold Op.unary; cases op <;> exact .fails fun _ => rfl)
  case convert src dst x =>
    exact SimC.of_same (SimC.of_v (r_convert hR (he x (by simp)) h)) (by simp only [execOp, hop])
  case makeInterface t x =>
    replace h := skeep_some h
    obtain ⟨h, rfl⟩ := h
    exact SimC.of_same (SimC.of_v (SimV.still hR (r_siface (he x (by simp)) h))) (by simp only [execOp, hop])
  case makeFunc fn first captured =>
    have hv1 : VA κ (first.map a.eval) (sargs s first) := va_args fun x hx => he x (by simp at hx ⊢; exact .inl hx)
    have hv2 : VA κ (captured.map a.eval) (sargs s captured) := va_args fun x hx => he x (by simp at hx ⊢; exact .inr hx)
    have fin : FnR κ fn fn → some (Value.func fn (sargs s first) (sargs s captured), σ) = some (v', σ') → SimC E.P κ σ w (execOp a.eval o) v' σ' := by
      intro hf h
      simp only [Option.some.injEq, Prod.mk.injEq] at h
      obtain ⟨rfl, rfl⟩ := h
      refine ⟨.value (.func fn (first.map a.eval) (captured.map a.eval)), w, ?_, κ, .func' hf hv1 hv2, hR, Post.refl _ _ _⟩
      simp only [execOp, hop]
      rfl
    clear he hv1 hv2
    match fn, fin, h with
    | .func f, fin, h => exact fin (.func f) h
    | .method n, fin, h => exact fin (.method n) h
    | .methodOf t n, fin, h => exact fin (.methodOf t n) h
    | .via t p f b, fin, h => exact fin (.via t p f b) h
    | .yield l, fin, h => simp at h
  case slice t x lo hi mx =>
    have hh := r_slice (w := w) (he x (by simp)) (opt lo fun y hy => he y (by simp [hy])) (opt hi fun y hy => he y (by simp [hy])) (opt mx fun y hy => he y (by simp [hy])) h
    obtain ⟨e, hv⟩ := hh
    subst e
    exact SimC.of_same (SimC.of_v (SimV.still hR hv)) (by simp only [execOp, hop])
  case fieldAddr t x f =>
    replace h := skeep_some h
    obtain ⟨h, rfl⟩ := h
    exact SimC.of_same (SimC.of_v (SimV.still hR (r_fieldAddr (he x (by simp)) h))) (by simp only [execOp, hop])
  case field t x f =>
    replace h := skeep_some h
    obtain ⟨h, rfl⟩ := h
    exact SimC.of_same (SimC.of_v (SimV.still hR (r_field (he x (by simp)) h))) (by simp only [execOp, hop])
  case indexAddr t x i =>
    replace h := skeep_some h
    obtain ⟨h, rfl⟩ := h
    exact SimC.of_same (SimC.of_v (SimV.still hR (r_indexAddr (he x (by simp)) (he i (by simp)) h))) (by simp only [execOp, hop])
  case index t x i =>
    replace h := skeep_some h
    obtain ⟨h, rfl⟩ := h
    exact SimC.of_same (SimC.of_v (SimV.still hR (r_index (he x (by simp)) (he i (by simp)) h))) (by simp only [execOp, hop])
  case range t x =>
    exact SimC.of_same (SimC.of_v (r_range hR (he x (by simp)) h)) (by simp only [execOp, hop])
  case next it b =>
    exact SimC.of_same (SimC.of_v (r_next (t := o.type) hR (he it (by simp)) h)) (by simp only [execOp, hop])
  case typeAssert x xt t ok =>
    replace h := skeep_some h
    obtain ⟨h, rfl⟩ := h
    exact SimC.of_same (SimC.of_v (SimV.still hR (r_sassert (xt := xt) G.zp (he x (by simp)) h))) (by simp only [execOp, hop])
  case extract x i =>
    have hx := he x (by simp)
    generalize hxs : s.eval x = x' at h hx
    generalize hxa : a.eval x = xr at hx
    cases hx <;> first | (simp at h; done) | skip
    rename_i vs vs' hsz hpt
    replace h := skeep_some h
    obtain ⟨h, rfl⟩ := h
    have h' : vs'[i]? = some v' := by simpa using h
    obtain ⟨v, hv, hr⟩ := va_at (VA.of_points hsz hpt) h'
    refine ⟨.value v, w, ?_, κ, hr, hR, Post.refl _ _ _⟩
    simp [execOp, hop, hxa, Instr.extract, hv]
  case call c =>
    simp only [Call.operands] at he
    have hargs : VA κ (c.args.map a.eval) (sargs s c.args) := va_args fun x hx => he x (by simp at hx ⊢; exact .inr hx)
    unfold scallOp at h
    simp only at h
    have hex : execOp a.eval o = (do let d ← resolve a.eval c o.type; invoke d.target d.args) := by simp only [execOp, hop]
    rw [hex]
    unfold resolve
    cases hcal : c.callee with
    | builtin b =>
      rw [hcal] at h
      exact SimC.of_same (r_builtin G.zp hR hargs h) rfl
    | invoke recv name =>
      rw [hcal] at h he
      refine SimC.of_same (r_method G hC hK hR (he recv (by simp)) hargs h) ?_
      have e : ((#[a.eval recv] ++ c.args.map a.eval).extract 1 (#[a.eval recv] ++ c.args.map a.eval).size) = c.args.map a.eval := by
        apply Array.ext'
        simp only [Array.toList_extract, Array.toList_append, List.extract_eq_take_drop, List.singleton_append, List.drop_succ_cons, List.drop_zero]
        rw [List.take_of_length_le (by simp)]
      simp only [Sem.run_bind, Sem.run_pure, Result.andThen, invoke]
      have e0 : (#[a.eval recv] ++ c.args.map a.eval)[0]? = some (a.eval recv) := by
        rw [Array.getElem?_append_left (by simp)]; rfl
      rw [e, e0]
    | value f =>
      rw [hcal] at h he
      have hf := he f (by simp)
      simp only at h
      generalize hfs : s.eval f = f' at h hf
      generalize hfa : a.eval f = fr at hf
      cases hf <;> first | (simp at h; done) | skip
      rename_i fn fn' first first' cap cap' hfn s1 p1 s2 p2
      have h1 := VA.of_points s1 p1
      have h2 := VA.of_points s2 p2
      have hall : VA κ (first ++ c.args.map a.eval) (first' ++ sargs s c.args) := by
        simp only [VA, Array.toList_append]
        exact F2.append h1 hargs
      cases hfn <;> first | (simp at h; done) | skip
      case func g =>
        refine SimC.of_same (r_func G hC hK hR (args := (first ++ c.args.map a.eval) ++ cap) ?_ h) (by simp [hfa, Deferred.ofValue, invoke])
        simp only [VA, Array.toList_append] at hall ⊢
        exact F2.append hall h2
      case method name =>
        cases h0 : (first' ++ sargs s c.args)[0]? with
        | none => simp only [h0] at h; simp at h
        | some recv' =>
          simp only [h0] at h
          obtain ⟨recv, hrv, hrr⟩ := va_at hall h0
          refine SimC.of_same (r_method G hC hK hR (args := (first ++ c.args.map a.eval).extract 1 (first ++ c.args.map a.eval).size) hrr ?_ h) ?_
          · have hsz := hall.size
            simp only [VA, Array.toList_extract, List.extract_eq_take_drop] at hall ⊢
            rw [hsz]
            exact (hall.drop 1).take _
          · simp only [hfa, Deferred.ofValue, Sem.run_bind, Sem.run_pure, Result.andThen, invoke, hrv]
      case yield sl bi hb =>
        obtain ⟨fx, tmps, as, bd, hy, hround⟩ := hC.round κ σ w bi.r sl _ _ v' σ' hK hR ⟨bi, hb, rfl⟩ hall h
        refine ⟨.round bi.r fx tmps as bd, w, ?_, rfl, hround⟩
        simp only [hfa, Deferred.ofValue, Sem.run_bind, Sem.run_pure, Result.andThen, invoke]
        exact hy
end
end Go.Sh

namespace Go.Sh
open Go

section
variable {F : Fence} {n : Nat} {P : Program} {a : Act} {w : World} {Q : Exit → Act → World → Prop}

/-- At most so many rounds of a loop. -/
def LoopN (F : Fence) (n : Nat) (P : Program) (c : Code) (Q : Exit → Act → World → Prop) : Nat → Act → World → Prop
  | 0, _, _ => False
  | k + 1, a, w => c.wpIn F n P (Exit.then (LoopN F n P c Q k) Q) a w

theorem wpIn_loopN {c : Code} {j : Nat} (h : LoopN F n P c Q j a w) : (Code.loop c).wpIn F n P Q a w := by
  intro b k cs hro hb hr
  have key : ∀ j a w, LoopN F n P c Q j a w →
      ∃ e a' w', Q e a' w' ∧ ArrivesIn (Machine.fenced P F) P (lone (b.atR a (.code c :: .inLoop c :: k)) cs w) b k cs e a' w' := by
    intro j
    induction j with
    | zero => intro a w h; exact h.elim
    | succ j ih =>
      intro a w hI
      obtain ⟨e, a₁, w₁, hq, harr⟩ := hI b (.inLoop c :: k) cs hro hb hr
      cases e with
      | normal =>
        obtain ⟨e₂, a₂, w₂, hq₂, harr₂⟩ := ih a₁ w₁ hq
        exact ⟨e₂, a₂, w₂, hq₂, .of_steps (StepsIn.trans harr (.one (fenced_calm hb hr rfl) stepR_inLoop)) harr₂⟩
      | exit id => exact ⟨_, a₁, w₁, hq, .pass (x := .inLoop c) rfl (fun _ _ => .inl (by simp)) harr⟩
      | goto l => exact ⟨_, a₁, w₁, hq, .pass (x := .inLoop c) rfl (fun _ _ => .inl (by simp)) harr⟩
      | ret => exact ⟨_, a₁, w₁, hq, .pass (x := .inLoop c) rfl (fun _ _ => .inl (by simp)) harr⟩
      | panic ch => exact ⟨_, a₁, w₁, hq, .pass (x := .inLoop c) rfl (fun _ _ => .inl (by simp)) harr⟩
      | outgrown => exact ⟨_, a₁, w₁, hq, .pass (x := .inLoop c) rfl (fun _ _ => .inl (by simp)) harr⟩
  obtain ⟨e, a', w', hq, harr⟩ := key _ a w h
  exact ⟨e, a', w', hq, .of_steps (.one (fenced_calm hb hr rfl) stepR_loop) harr⟩

theorem stepR_scope {b : Frame} {k : List Item} {cs : List Frame} {c : Code} : step P (lone (b.atR a (.code (.scope c) :: k)) cs w) = .next (lone (b.atR a (.code c :: .inScope c :: k)) cs w) :=
  step_lone_go (by simp [stepG, stepG.exec, Frame.atR])
theorem stepR_inScope {b : Frame} {k : List Item} {cs : List Frame} {c : Code} : step P (lone (b.atR a (.inScope c :: k)) cs w) = .next (lone (b.atR a k) cs w) :=
  step_lone_go (by simp [stepG, stepG.exec, Frame.atR])

def ScopeQ (c : Code) (J : Code → Act → World → Prop) (Q : Exit → Act → World → Prop) : Exit → Act → World → Prop
  | .goto l, a, w => match findLabel c l with
    | some rest => J rest a w
    | none => Q (.goto l) a w
  | e, a, w => Q e a w

def ScopeN (F : Fence) (n : Nat) (P : Program) (c : Code) (Q : Exit → Act → World → Prop) : Nat → Code → Act → World → Prop
  | 0, _, _, _ => False
  | k + 1, rest, a, w => rest.wpIn F n P (ScopeQ c (ScopeN F n P c Q k) Q) a w

theorem wpIn_scopeN {c : Code} {j : Nat} (h : ScopeN F n P c Q j c a w) : (Code.scope c).wpIn F n P Q a w := by
  intro b k cs hro hb hr
  have key : ∀ j rest a w, ScopeN F n P c Q j rest a w →
      ∃ e a' w', Q e a' w' ∧ ArrivesIn (Machine.fenced P F) P (lone (b.atR a (.code rest :: .inScope c :: k)) cs w) b k cs e a' w' := by
    intro j
    induction j with
    | zero => intro rest a w h; exact h.elim
    | succ j ih =>
      intro rest a w hI
      obtain ⟨e, a₁, w₁, hq, harr⟩ := hI b (.inScope c :: k) cs hro hb hr
      cases e with
      | normal => exact ⟨.normal, a₁, w₁, hq, StepsIn.trans harr (.one (fenced_calm hb hr rfl) stepR_inScope)⟩
      | exit id =>
        have hx : exitTo id (.inScope c :: k) = exitTo id k := by simp [exitTo]
        exact ⟨.exit id, a₁, w₁, hq, fun k' hk => harr.1 k' (by rw [hx]; exact hk), fun hr' hk => harr.2 hr' (by rw [hx]; exact hk)⟩
      | goto l =>
        simp only [ScopeQ] at hq
        cases hf : findLabel c l with
        | some rest' =>
          rw [hf] at hq
          have hg : gotoIn l (.inScope c :: k) = some (.code rest' :: .inScope c :: k) := by simp [gotoIn, hf]
          obtain ⟨e₂, a₂, w₂, hq₂, harr₂⟩ := ih rest' a₁ w₁ hq
          exact ⟨e₂, a₂, w₂, hq₂, .of_steps (harr.1 _ hg) harr₂⟩
        | none =>
          rw [hf] at hq
          have hg : gotoIn l (.inScope c :: k) = gotoIn l k := by simp [gotoIn, hf]
          exact ⟨.goto l, a₁, w₁, hq, fun k' hk => harr.1 k' (by rw [hg]; exact hk), fun hr' hk => harr.2 hr' (by rw [hg]; exact hk)⟩
      | ret => exact ⟨_, a₁, w₁, hq, harr⟩
      | panic ch => exact ⟨_, a₁, w₁, hq, harr⟩
      | outgrown => exact ⟨_, a₁, w₁, hq, harr⟩
  obtain ⟨e, a', w', hq, harr⟩ := key _ _ a w h
  exact ⟨e, a', w', hq, .of_steps (.one (fenced_calm hb hr rfl) stepR_scope) harr⟩
end

/-! ## The fences -/
abbrev FW : Option Nat → Fence
  | none => Fence.wide
  | some l => Fence.wide.inRound l

theorem FW.fn (ro : Option Nat) (f : FuncId) : (FW ro).fn f := by cases ro <;> trivial
theorem FW.depth (ro : Option Nat) : (FW ro).depth.isSome = true → 1 ≤ 0 := by cases ro <;> (intro h; simp [FW, Fence.wide] at h)
theorem FW.round (ro : Option Nat) : (FW ro).round = ro := by cases ro <;> rfl
theorem FW.calls {ro : Option Nat} {P : Program} {f : FuncId} {args : Array Value} {w : World} {R : Ending → World → Prop} (h : CallsIn Fence.wide 0 P f args w R) : CallsIn (FW ro) 0 P f args w R := by
  cases ro with
  | none => exact h
  | some l => exact h
theorem FW.rounds {ro : Option Nat} {P : Program} {l : Nat} {f : FuncId} {tmps : Array Value} {as bd : Code} {w : World} {R : Ending → World → Prop} (h : RoundIn Fence.wide 0 P l f tmps as bd w R) : RoundIn (FW ro) 0 P l f tmps as bd w R := by
  cases ro with
  | none => exact h
  | some l' => exact h

section
variable {P : Program} {E : Env} {κ : K} {σ : SW} {w : World}

/-- The activation. -/
structure AcR (κ : K) (a : Act) (s : SAct) : Prop where
  tm : TMR κ a.tmps s.t s.n
  df : F2 (fun d m => ∃ bi, κ m = some bi ∧ d = ({ target := .collected bi.r, args := #[] } : Deferred)) a.defers s.marks

theorem AcR.mono {κ κ' : K} {a : Act} {s : SAct} (h : AcR κ a s) (hk : K.le κ κ') : AcR κ' a s :=
  ⟨h.tm.mono hk, h.df.mono fun _ _ ⟨bi, h1, h2⟩ => ⟨bi, hk _ _ h1, h2⟩⟩

theorem AcR.eval {a : Act} {s : SAct} (h : AcR κ a s) {x : Operand} (hx : OpV κ x) : V κ (a.eval x) (s.eval x) := by
  cases x with
  | tmp t => exact h.tm.vals t
  | const v => exact hx
  | global g => exact hx
  | func f => exact .func' (.func f) .nil .nil

theorem SAct.put_some {s s' : SAct} {dst : Option Tmp} {v : Value} (h : s.put dst v = some s') :
    (dst = none ∧ s' = s) ∨ ∃ d, dst = some d ∧ d < s.n ∧ s' = ⟨s.t.set bits d v, s.n, s.marks⟩ := by
  cases dst with
  | none =>
    unfold SAct.put at h
    simp only [Option.some.injEq] at h
    exact .inl ⟨rfl, h.symm⟩
  | some d =>
    obtain ⟨t, n, ms⟩ := s
    simp only [SAct.put] at h
    cases hb : Nat.blt d n with
    | false => rw [hb] at h; simp at h
    | true =>
      rw [hb] at h
      simp only [cond_true, Option.some.injEq] at h
      exact .inr ⟨d, rfl, by simpa [Nat.blt_eq] using hb, h.symm⟩

theorem AcR.put {a : Act} {s s' : SAct} (h : AcR κ a s) {dst : Option Tmp} {v v' : Value} (hv : V κ v v') (hs : s.put dst v' = some s') : AcR κ (a.put dst v) s' := by
  rcases SAct.put_some hs with ⟨rfl, rfl⟩ | ⟨d, rfl, hd, rfl⟩
  · exact h
  · exact ⟨h.tm.set hd hv, h.df⟩

theorem AcR.wanted {a : Act} {s : SAct} (h : AcR κ a s) (ops : Array Oper) (o : Oper) : Region.wanted o (yielded ops a.tmps) = swanted ops s o := by
  unfold Region.wanted swanted
  cases o.guard with
  | none => rfl
  | some jw =>
    obtain ⟨j, want⟩ := jw
    dsimp only
    unfold yielded
    cases hd : (ops[j]?).bind (·.dst) with
    | none => simp
    | some d =>
      simp only [Option.bind_some]
      have hv := h.tm.vals d
      have hreal : a.tmps.getD d undef = (a.tmps[d]?).getD undef := by simp
      rw [hreal] at hv
      generalize a.tmps[d]? = r at hv
      generalize s.t.get d = q at hv
      have und : ∀ x, V κ undef x → ∀ b, x ≠ .bool b := by
        intro x hx b hb
        subst hb
        cases hx
      have und' : ∀ x, V κ x undef → ∀ b, x ≠ .bool b := by
        intro x hx b hb
        subst hb
        cases hx
      cases r with
      | none =>
        cases q with
        | none => simp
        | some y =>
          simp only [Option.getD_none, Option.getD_some] at hv
          cases y <;> first | rfl | exact absurd rfl (und _ hv _)
      | some x =>
        cases q with
        | none =>
          simp only [Option.getD_none, Option.getD_some] at hv
          cases x <;> first | rfl | exact absurd rfl (und' _ hv _)
        | some y =>
          simp only [Option.getD_some] at hv
          cases hv <;> rfl

/-- One operation, in the calculus. -/
theorem step_wp (G : Good E) {C : SCall} (hC : CSim E C) (hK0 : GK E κ) (hR : Rel κ σ w) {o : Oper} {a : Act} {s : SAct} (he : ∀ x ∈ o.op.operands.toList, V κ (a.eval x) (s.eval x)) {v' : Value} {σ' : SW} (h : sop E C o s σ = some (v', σ'))
    {ro : Option Nat} {K : Act → World → Prop} {Q : Exit → Act → World → Prop}
    (hK : ∀ v κ' w', V κ' v v' → Rel κ' σ' w' → Post κ κ' σ σ' w w' → K (a.put o.dst v) w') : o.wpIn (FW ro) 0 E.P a w K Q := by
  refine ⟨fun f _ => FW.fn ro f, ?_⟩
  have hnd : ∀ c, o.op ≠ .defer c := by
    intro c hc
    unfold sop at h
    rw [hc] at h
    simp at h
  rw [Oper.semAt_eq _ _ _ hnd]
  obtain ⟨r, w1, h1, h2⟩ := r_sop G hC hK0 hR he h
  rw [h1]
  cases r <;> simp only at h2 <;> first | exact h2.elim | skip
  case value v =>
    obtain ⟨κ', h3, h4, h5⟩ := h2
    exact hK v κ' w1 h3 h4 h5
  case skip =>
    obtain ⟨rfl, κ', h4, h5⟩ := h2
    exact hK undef κ' w1 .undef h4 h5
  case enter f args =>
    obtain ⟨rfl, hc⟩ := h2
    rw [Oper.uponIn_enter]
    refine ⟨FW.depth ro, FW.calls (CallsIn.mono hc ?_)⟩
    rintro e w2 ⟨v, κ', rfl, h3, h4, h5⟩
    exact hK v κ' w2 h3 h4 h5
  case round l f tmps as bd =>
    obtain ⟨rfl, hc⟩ := h2
    rw [Oper.uponIn_round]
    refine ⟨FW.depth ro, FW.rounds (RoundIn.mono hc ?_)⟩
    rintro e w2 ⟨v, κ', rfl, h3, h4, h5⟩
    exact hK v κ' w2 h3 h4 h5
end
end Go.Sh

namespace Go.Sh
open Go

section
variable {E : Env} {κ : K} {σ : SW} {w : World}

theorem Rel.post_trans {κ κ' κ'' : K} {σ σ' σ'' : SW} {w w' w'' : World} (hR : Rel κ σ w) (hR' : Rel κ' σ' w') (h : Post κ κ' σ σ' w w') (h' : Post κ' κ'' σ' σ'' w' w'') : Post κ κ'' σ σ'' w w'' :=
  Post.trans (fun s bi h => (hR.dom s bi h).1) (fun s bi h => (hR'.dom s bi h).1) h h'

/-- A region that goes in the text's order. -/
theorem ops_wp (G : Good E) {C : SCall} (hC : CSim E C) {ops : Array Oper} {ro : Option Nat} {Q : Exit → Act → World → Prop} : ∀ (l : List Oper) (i : Nat), ops.toList.drop i = l → ∀ {κ : K} {σ : SW} {w : World} {a : Act} {s s' : SAct} {σ' : SW},
    (∀ o ∈ l, ∀ x ∈ o.op.operands.toList, OpV κ x) → GK E κ → Rel κ σ w → AcR κ a s → sops E C ops l s σ = some (s', σ') →
    (∀ κ' a' w', AcR κ' a' s' → Rel κ' σ' w' → Post κ κ' σ σ' w w' → Q .normal a' w') → wpOpsIn (FW ro) 0 E.P ops Q (List.range' i l.length) a w := by
  intro l
  induction l with
  | nil =>
    intro i _ κ σ w a s s' σ' _ hK hR ha h hQ
    simp only [sops, Option.some.injEq, Prod.mk.injEq] at h
    obtain ⟨rfl, rfl⟩ := h
    exact hQ κ a w ha hR (Post.refl _ _ _)
  | cons o l ih =>
    intro i hi κ σ w a s s' σ' hop hK hR ha h hQ
    have hoi : ops[i]? = some o := by
      have : (ops.toList.drop i)[0]? = some o := by rw [hi]; rfl
      simpa using this
    have hrest : ops.toList.drop (i + 1) = l := by
      have := congrArg List.tail hi
      simpa [List.tail_drop] using this
    simp only [List.length_cons, List.range'_succ]
    simp only [sops] at h
    cases hst : sstep E C ops o s σ with
    | none => rw [hst] at h; simp at h
    | some x =>
      obtain ⟨s1, σ1⟩ := x
      rw [hst] at h
      simp only at h
      rw [wpOpsIn_cons]
      unfold wpOpIn
      rw [hoi]
      simp only
      rw [ha.wanted ops o]
      unfold sstep at hst
      cases hw : swanted ops s o with
      | false =>
        rw [hw] at hst
        simp only at hst
        cases hp : s.put o.dst undef with
        | none => rw [hp] at hst; simp at hst
        | some s2 =>
          rw [hp] at hst
          simp only [Option.some.injEq, Prod.mk.injEq] at hst
          obtain ⟨rfl, rfl⟩ := hst
          rw [if_neg (by simp)]
          exact ⟨fun f _ => FW.fn ro f, ih (i + 1) hrest (fun o' ho' => hop o' (by simp [ho'])) hK hR (ha.put .undef hp) h hQ⟩
      | true =>
        rw [hw] at hst
        simp only at hst
        rw [if_pos rfl]
        cases hs : sop E C o s σ with
        | none => rw [hs] at hst; simp at hst
        | some x =>
          obtain ⟨v', σ2⟩ := x
          rw [hs] at hst
          simp only at hst
          cases hp : s.put o.dst v' with
          | none => rw [hp] at hst; simp at hst
          | some s2 =>
            rw [hp] at hst
            simp only [Option.some.injEq, Prod.mk.injEq] at hst
            obtain ⟨rfl, rfl⟩ := hst
            refine step_wp G hC hK hR (fun x hx => ha.eval (hop o (by simp) x hx)) hs fun v κ' w' hv hR' hP' => ?_
            refine ih (i + 1) hrest (fun o' ho' x hx => (hop o' (by simp [ho']) x hx).mono hP'.le) (hK.mono hP'.le) hR' ((ha.mono hP'.le).put hv hp) h fun κ2 a2 w2 ha2 hR2 hP2 => ?_
            exact hQ κ2 a2 w2 ha2 hR2 (hR.post_trans hR' hP' hP2)

/-- What is asked of a region that draws its order. -/
def DrawSim (E : Env) (C : SCall) : Prop :=
  ∀ (ops : Array Oper) (id : Nat) (ro : Option Nat) (Q : Exit → Act → World → Prop) (κ : K) (σ : SW) (w : World) (a : Act) (s s' : SAct) (σ' : SW), (∀ o ∈ ops.toList, ∀ x ∈ o.op.operands.toList, OpV κ x) → GK E κ → Rel κ σ w → AcR κ a s →
    sregion E C ops true s σ = some (.normal, s', σ') → (∀ κ' a' w', AcR κ' a' s' → Rel κ' σ' w' → Post κ κ' σ σ' w w' → Q .normal a' w') → (Code.region id ops true).wpIn (FW ro) 0 E.P Q a w

/-- Where a code is left. -/
def Ends (κ : K) (σ : SW) (w : World) (e : SExit) (s' : SAct) (σ' : SW) : Exit → Act → World → Prop := fun x a' w' =>
  (match e with
   | .normal => x = .normal
   | .exit id => x = .exit id
   | .goto l => x = .goto l
   | .ret => x = .ret) ∧ ∃ κ', AcR κ' a' s' ∧ Rel κ' σ' w' ∧ Post κ κ' σ σ' w w'

theorem Ends.trans {κ κ1 : K} {σ σ1 : SW} {w w1 : World} (hR : Rel κ σ w) (hR1 : Rel κ1 σ1 w1) (hP : Post κ κ1 σ σ1 w w1) {e : SExit} {s' : SAct} {σ' : SW} {x : Exit} {a' : Act} {w' : World} (h : Ends κ1 σ1 w1 e s' σ' x a' w') :
    Ends κ σ w e s' σ' x a' w' := by
  obtain ⟨h1, κ', h2, h3, h4⟩ := h
  exact ⟨h1, κ', h2, h3, hR.post_trans hR1 hP h4⟩

/-- The activation's round, if it is in one. -/
def RoundR (κ : K) (rd ro : Option Nat) : Prop :=
  match rd, ro with
  | none, none => True
  | some s, some l => BR κ l s
  | _, _ => False

theorem RoundR.mono {κ κ' : K} {rd ro : Option Nat} (h : RoundR κ rd ro) (hk : K.le κ κ') : RoundR κ' rd ro := by
  cases rd <;> cases ro <;> first | exact h | exact BR.mono h hk

/-- What stands throughout. -/
def Cx (E : Env) (κ : K) (rd ro : Option Nat) : Prop := GK E κ ∧ RoundR κ rd ro
theorem Cx.mono {κ κ' : K} {rd ro : Option Nat} (h : Cx E κ rd ro) (hk : K.le κ κ') : Cx E κ' rd ro := ⟨h.1.mono hk, h.2.mono hk⟩

/-- A code is followed. -/
def Follows (E : Env) (f : SAct → SW → SRes) (c : Code) (rd ro : Option Nat) : Prop :=
  ∀ κ σ w a s e s' σ', Cx E κ rd ro → CodeV κ c → Rel κ σ w → AcR κ a s → f s σ = some (e, s', σ') → c.wpIn (FW ro) 0 E.P (Ends κ σ w e s' σ') a w

theorem region_follows (G : Good E) {C : SCall} (hC : CSim E C) (hD : DrawSim E C) {rd ro : Option Nat} (id : Nat) (ops : Array Oper) (dr : Bool) : Follows E (sregion E C ops dr) (.region id ops dr) rd ro := by
  intro κ σ w a s e s' σ' hX hV hR ha h
  have hfin : ∀ κ' a' w', AcR κ' a' s' → Rel κ' σ' w' → Post κ κ' σ σ' w w' → Ends κ σ w .normal s' σ' .normal a' w' := fun κ' a' w' h1 h2 h3 => ⟨rfl, κ', h1, h2, h3⟩
  have he : e = .normal := by
    cases dr with
    | false =>
      simp only [sregion] at h
      cases hs : sops E C ops ops.toList s σ with
      | none => rw [hs] at h; simp at h
      | some x => rw [hs] at h; simp only [Option.some.injEq, Prod.mk.injEq] at h; exact h.1.symm
    | true =>
      simp only [sregion] at h
      cases hs : sdsts ops.toList 0 .nil with
      | none => rw [hs] at h; simp at h
      | some D =>
        rw [hs] at h
        simp only at h
        cases hs2 : sdraw E C ops σ.n D ops.toList 0 .nil none s ⟨σ.h, σ.n + ops.size, σ.b⟩ with
        | none => rw [hs2] at h; simp at h
        | some x =>
          obtain ⟨l, s1, σ1⟩ := x
          rw [hs2] at h
          simp only at h
          cases hs3 : sagains E C ops ops.size (smods E ops.size σ1 l) l with
          | false => rw [hs3] at h; simp at h
          | true => rw [hs3] at h; simp only [Option.some.injEq, Prod.mk.injEq] at h; exact h.1.symm
  subst he
  cases dr with
  | true => exact hD ops id ro _ κ σ w a s s' σ' hV hX.1 hR ha h hfin
  | false =>
    simp only [sregion] at h
    cases hs : sops E C ops ops.toList s σ with
    | none => rw [hs] at h; simp at h
    | some x =>
      rw [hs] at h
      simp only [Option.some.injEq, Prod.mk.injEq, true_and] at h
      obtain ⟨s1, σ1⟩ := x
      obtain ⟨rfl, rfl⟩ := h
      refine wpIn_region ?_
      have := ops_wp G hC (ops := ops) (ro := ro) (Q := Ends κ σ w .normal s1 σ1) ops.toList 0 (by simp) hV hX.1 hR ha hs hfin
      simpa [List.range_eq_range'] using this

theorem hasLabel_find : ∀ {c : Code} {l : Nat}, hasLabel c l = (findLabel c l).isSome := by
  intro c l
  induction c with
  | seq x y ih1 ih2 =>
    simp only [hasLabel, findLabel, ih1, ih2]
    cases findLabel x l <;> simp
  | label l' =>
    simp only [hasLabel, findLabel]
    by_cases h : l' = l
    · subst h; simp
    · have : Nat.beq l' l = false := by
        cases hb : Nat.beq l' l with
        | false => rfl
        | true => exact absurd (Nat.eq_of_beq_eq_true hb) h
      simp [this, h]
  | _ => rfl

theorem CodeV.rest {κ : K} : ∀ {c : Code} {l : Nat} {rest : Code}, CodeV κ c → findLabel c l = some rest → CodeV κ rest := by
  intro c l
  induction c with
  | seq x y ih1 ih2 =>
    intro rest h hf
    simp only [findLabel] at hf
    cases hx : findLabel x l with
    | some r => rw [hx] at hf; simp only [Option.some.injEq] at hf; subst hf; exact ⟨ih1 h.1 hx, h.2⟩
    | none => rw [hx] at hf; exact ih2 h.2 hf
  | label l' =>
    intro rest h hf
    simp only [findLabel] at hf
    split at hf
    · simp only [Option.some.injEq] at hf; subst hf; trivial
    · cases hf
  | _ => intro rest h hf; simp [findLabel] at hf

theorem loop_follows {rd ro : Option Nat} {c : Code} {f : SAct → SW → SRes} {Q : Exit → Act → World → Prop} (hf : Follows E f c rd ro) : ∀ (k : Nat) {κ : K} {σ : SW} {w : World} {a : Act} {s : SAct} {e : SExit} {s' : SAct} {σ' : SW}, Cx E κ rd ro → CodeV κ c → Rel κ σ w → AcR κ a s →
    sloop k f s σ = some (e, s', σ') → (∀ x a' w', Ends κ σ w e s' σ' x a' w' → Q x a' w') → LoopN (FW ro) 0 E.P c Q k a w
  | 0, _, _, _, _, _, _, _, _, _, _, _, _, h, _ => by simp [sloop] at h
  | k + 1, κ, σ, w, a, s, e, s', σ', hX, hV, hR, ha, h, hQ => by
    simp only [sloop] at h
    cases hr : f s σ with
    | none => rw [hr] at h; simp at h
    | some x =>
      obtain ⟨e1, s1, σ1⟩ := x
      rw [hr] at h
      refine wpIn_mono (hf κ σ w a s e1 s1 σ1 hX hV hR ha hr) fun x a1 w1 hx => ?_
      have hx0 := hx
      obtain ⟨he, κ1, ha1, hR1, hP1⟩ := hx
      cases e1 <;> simp only at he h <;> subst he
      case normal => exact loop_follows hf k (hX.mono hP1.le) (hV.mono hP1.le) hR1 ha1 h fun x a' w' hx => hQ x a' w' (Ends.trans hR hR1 hP1 hx)
      all_goals
        simp only [Option.some.injEq, Prod.mk.injEq] at h
        obtain ⟨rfl, rfl, rfl⟩ := h
        exact hQ _ _ _ hx0

/-- A code, and the code from one of its labels on. -/
def FollowsL (E : Env) (f : Option Nat → SAct → SW → SRes) (c : Code) (rd ro : Option Nat) : Prop :=
  Follows E (f none) c rd ro ∧ ∀ l rest, findLabel c l = some rest → Follows E (f (some l)) rest rd ro

theorem scope_follows {rd ro : Option Nat} {c : Code} {f : Option Nat → SAct → SW → SRes} {Q : Exit → Act → World → Prop} (hf : FollowsL E f c rd ro) : ∀ (k : Nat) (fr : Option Nat) (rest : Code), (match fr with | none => rest = c | some l => findLabel c l = some rest) →
    ∀ {κ : K} {σ : SW} {w : World} {a : Act} {s : SAct} {e : SExit} {s' : SAct} {σ' : SW}, Cx E κ rd ro → CodeV κ c → Rel κ σ w → AcR κ a s →
    sscope (hasLabel c) k f fr s σ = some (e, s', σ') → (∀ x a' w', Ends κ σ w e s' σ' x a' w' → Q x a' w') → ScopeN (FW ro) 0 E.P c Q k rest a w
  | 0, _, _, _, _, _, _, _, _, _, _, _, _, _, _, _, h, _ => by simp [sscope] at h
  | k + 1, fr, rest, hfr, κ, σ, w, a, s, e, s', σ', hX, hV, hR, ha, h, hQ => by
    simp only [sscope] at h
    cases hr : f fr s σ with
    | none => rw [hr] at h; simp at h
    | some x =>
      obtain ⟨e1, s1, σ1⟩ := x
      rw [hr] at h
      have hfol : rest.wpIn (FW ro) 0 E.P (Ends κ σ w e1 s1 σ1) a w := by
        cases fr with
        | none => simp only at hfr; subst hfr; exact hf.1 κ σ w a s e1 s1 σ1 hX hV hR ha hr
        | some l => exact hf.2 l rest hfr κ σ w a s e1 s1 σ1 hX (hV.rest hfr) hR ha hr
      refine wpIn_mono hfol fun x a1 w1 hx => ?_
      have hx0 := hx
      obtain ⟨he, κ1, ha1, hR1, hP1⟩ := hx
      cases e1 <;> simp only at he h <;> subst he
      case goto l =>
        cases hl : hasLabel c l with
        | true =>
          rw [hl] at h
          simp only at h
          have hs := hl
          rw [hasLabel_find] at hs
          obtain ⟨r', hr'⟩ := Option.isSome_iff_exists.1 hs
          simp only [ScopeQ, hr']
          exact scope_follows hf k (some l) r' hr' (hX.mono hP1.le) (hV.mono hP1.le) hR1 ha1 h fun x a' w' hx => hQ x a' w' (Ends.trans hR hR1 hP1 hx)
        | false =>
          rw [hl] at h
          simp only [Option.some.injEq, Prod.mk.injEq] at h
          obtain ⟨rfl, rfl, rfl⟩ := h
          have hs := hl
          rw [hasLabel_find] at hs
          have hn : findLabel c l = none := by simpa using hs
          simp only [ScopeQ, hn]
          exact hQ _ _ _ hx0
      all_goals
        simp only [Option.some.injEq, Prod.mk.injEq] at h
        obtain ⟨rfl, rfl, rfl⟩ := h
        exact hQ _ _ _ hx0
end
end Go.Sh

namespace Go.Sh
open Go

section
variable {E : Env} {κ : K} {σ : SW} {w : World}

theorem run_enterLoop_inner {P : Program} (fn : FuncId) (tmps : Array Value) (ps : Array Tmp) (as bd : Code) {l : Nat} {r : Loop} (h : w.heap[l]? = some (.loop r)) :
    (Instr.enterLoop fn tmps ps as bd (some l)).run P w =
      .ok (w.heap.size, []) (w.alloc (.loop { state := .ready, pending := none, fn, tmps, params := ps, assign := as, body := bd, defers := r.defers })) := by
  unfold Instr.enterLoop
  simp only [Sem.run_bind, run_getLoop h, run_newObj_alloc, Result.andThen, Sem.run_pure]

def JumpQ (P : Program) (ro : Option Nat) (Q : Exit → Act → World → Prop) (a : Act) (w : World) : Option Code → Prop
  | none => Q .normal a w
  | some c => c.wpIn (FW ro) 0 P Q a w

/-- The jump that a round has left. -/
theorem jump_follows {ro : Option Nat} {Q : Exit → Act → World → Prop} {pd : Option Code} {s : SAct} {σ : SW} {e : SExit} {s' : SAct} {σ' : SW} (h : sjump s σ pd = some (e, s', σ')) {κ0 κ : K} {σ0 : SW} {w0 w : World} {a : Act}
    (ha : AcR κ a s) (hR : Rel κ σ w) (hP : Post κ0 κ σ0 σ w0 w) (hQ : ∀ x a' w', Ends κ0 σ0 w0 e s' σ' x a' w' → Q x a' w') : JumpQ E.P ro Q a w pd := by
  unfold sjump at h
  unfold JumpQ
  cases pd with
  | none =>
    simp only [Option.some.injEq, Prod.mk.injEq] at h
    obtain ⟨rfl, rfl, rfl⟩ := h
    exact hQ _ _ _ ⟨rfl, κ, ha, hR, hP⟩
  | some c =>
    cases c <;> first
      | (simp at h; done)
      | (simp only [Option.some.injEq, Prod.mk.injEq] at h
         obtain ⟨rfl, rfl, rfl⟩ := h
         first
           | exact wpIn_ret (hQ _ _ _ ⟨rfl, κ, ha, hR, hP⟩)
           | exact wpIn_exit (hQ _ _ _ ⟨rfl, κ, ha, hR, hP⟩)
           | exact wpIn_goto (hQ _ _ _ ⟨rfl, κ, ha, hR, hP⟩))

noncomputable def spre (rd : Option Nat) (a : SAct) (σ : SW) : Option (Nat × List Nat × SW) :=
  match rd with
  | none => some (σ.n, σ.n :: a.marks, σ.push (.deferred 0))
  | some l0 => match σ.get l0 with
    | some (.loop _ _ _ _ _ _ _ df _) => some (df, a.marks, σ)
    | _ => none

theorem srange_none {C : SCall} {rd : Option Nat} {f : Value} {ps : Array Tmp} {as bd : Code} {a : SAct} {σ : SW} (h : spre rd a σ = none) : srange C rd f ps as bd a σ = none := by
  unfold spre at h
  unfold srange
  cases rd with
  | none => simp at h
  | some l0 =>
    simp only at h ⊢
    cases hg : σ.get l0 with
    | none => rfl
    | some o => rw [hg] at h; cases o <;> first | rfl | simp at h

theorem srange_some {C : SCall} {rd : Option Nat} {f : Value} {ps : Array Tmp} {as bd : Code} {a : SAct} {σ σ1 : SW} {df : Nat} {marks : List Nat} (h : spre rd a σ = some (df, marks, σ1)) :
    srange C rd f ps as bd a σ = match f with
    | .func (.func g) first captured =>
      match C (.fn g ((first ++ #[.func (.yield σ1.n) #[] #[]]) ++ captured)) (σ1.push (.loop .ready none a.t a.n ps as bd df 0)) with
      | some (_, σ2) => match σ2.get σ1.n with
        | some (.loop .busy ..) => none
        | some (.loop _ pending t n ps' as bd df' ver) => sjump { a with marks } (σ2.setObj σ1.n (.loop .exhausted pending t n ps' as bd df' (ver + 1))) pending
        | _ => none
      | none => none
    | _ => none := by
  unfold spre at h
  unfold srange
  cases rd with
  | none =>
    simp only [Option.some.injEq, Prod.mk.injEq] at h
    obtain ⟨rfl, rfl, rfl⟩ := h
    rfl
  | some l0 =>
    simp only at h ⊢
    cases hg : σ.get l0 with
    | none => rw [hg] at h; simp at h
    | some o =>
      rw [hg] at h
      cases o <;> first
        | (simp at h; done)
        | (simp only [Option.some.injEq, Prod.mk.injEq] at h
           obtain ⟨rfl, rfl, rfl⟩ := h
           rfl)

theorem range_follows (G : Good E) {C : SCall} (hC : CSim E C) {rd ro : Option Nat} {f : Operand} {ps : Array Tmp} {as bd : Code} :
    Follows E (fun s σ => srange C rd (s.eval f) ps as bd s σ) (.rangeFunc f ps as bd) rd ro := by
  intro κ σ w a s e s' σ' hX hV hR ha h
  obtain ⟨hK, hro⟩ := hX
  obtain ⟨hf, hVa, hVb⟩ := hV
  have hfv := ha.eval hf
  simp only at h
  cases hpre : spre rd s σ with
  | none => rw [srange_none hpre] at h; simp at h
  | some pr =>
    obtain ⟨df, marks, σ1⟩ := pr
    rw [srange_some hpre] at h
    unfold spre at hpre
    generalize hfs : s.eval f = fv at h hfv
    generalize hfa : a.eval f = fr at hfv
    cases hfv <;> first | (simp at h; done) | skip
    rename_i fn fn' first first' cap cap' hfn z1 p1 z2 p2
    cases hfn <;> first | (simp at h; done) | skip
    rename_i g
    have h1 := VA.of_points z1 p1
    have h2 := VA.of_points z2 p2
    simp only at h
    cases hc : C (.fn g ((first' ++ #[.func (.yield σ1.n) #[] #[]]) ++ cap')) (σ1.push (.loop .ready none s.t s.n ps as bd df 0)) with
    | none => rw [hc] at h; simp at h
    | some x =>
      obtain ⟨v2, σ2⟩ := x
      rw [hc] at h
      simp only at h
      refine wpIn_rangeFunc fun fn _ => ?_
      -- the record is laid
      have enter : ∃ (l : Nat) (mark : List Deferred) (w1 w2 : World) (κ1 : K) (rc : Loop), (Instr.enterLoop fn a.tmps ps as bd (FW ro).round).run E.P w = .ok (l, mark) w2 ∧ Rel κ1 σ1 w1 ∧ Post κ κ1 σ σ1 w w1 ∧ w2 = w1.alloc (.loop rc) ∧ l = w1.heap.size ∧
          LoopR κ1 rc .ready none s.t s.n ps as bd df ∧ AcR κ1 { a with defers := mark ++ a.defers } { s with marks } := by
        rw [FW.round]
        cases rd with
        | none =>
          cases ro with
          | some l => exact hro.elim
          | none =>
            simp only [Option.some.injEq, Prod.mk.injEq] at hpre
            obtain ⟨rfl, rfl, rfl⟩ := hpre
            obtain ⟨hR1, hP1⟩ := hR.new (.deferred 0) (.deferred (some [])) ⟨w.heap.size, 0, 0⟩ rfl rfl
            refine ⟨_, _, _, _, _, _, run_enterLoop_outer fn a.tmps ps as bd, hR1, hP1, rfl, (World.size_alloc w _).symm, ⟨rfl, rfl, ha.tm.mono hP1.le, rfl, rfl, rfl, ⟨_, K.add_same _ _ _, rfl⟩, hVa.mono hP1.le, hVb.mono hP1.le⟩, (ha.mono hP1.le).tm, ?_⟩
            exact .cons ⟨_, K.add_same _ _ _, rfl⟩ (ha.mono hP1.le).df
        | some l0 =>
          cases ro with
          | none => exact hro.elim
          | some l =>
            obtain ⟨bi, hb, rfl⟩ := hro
            simp only at hpre
            cases hg : σ.get l0 with
            | none => rw [hg] at hpre; simp at hpre
            | some o =>
              rw [hg] at hpre
              cases o <;> first | (simp at hpre; done) | skip
              simp only [Option.some.injEq, Prod.mk.injEq] at hpre
              obtain ⟨rfl, rfl, rfl⟩ := hpre
              obtain ⟨r, hr, hL⟩ := hR.cont _ _ _ hb hg
              obtain ⟨bd0, hb0, hd0⟩ := hL.defers
              exact ⟨_, _, w, _, κ, _, run_enterLoop_inner fn a.tmps ps as bd hr, hR, Post.refl _ _ _, rfl, rfl, ⟨rfl, rfl, ha.tm, rfl, rfl, rfl, ⟨bd0, hb0, hd0⟩, hVa, hVb⟩, ha⟩
      obtain ⟨l, mark, w1, w2, κ1, rc, henter, hR1, hP1, rfl, rfl, hL, ha1⟩ := enter
      have hle2 := K.le_add (bi := ⟨w1.heap.size, 0, 0⟩) hR1.fresh
      obtain ⟨hR2, hP2⟩ := hR1.new (.loop .ready none s.t s.n ps as bd df 0) (.loop rc) ⟨w1.heap.size, 0, 0⟩ rfl ⟨rc, rfl, hL.mono hle2⟩
      have hP02 := hR.post_trans hR1 hP1 hP2
      have hargs : VA (κ1.add σ1.n ⟨w1.heap.size, 0, 0⟩) ((first ++ #[.func (.yield w1.heap.size) #[] #[]]) ++ cap) ((first' ++ #[.func (.yield σ1.n) #[] #[]]) ++ cap') := by
        simp only [VA, Array.toList_append]
        refine F2.append (F2.append (VA.mono h1 hP02.le) (.cons ?_ .nil)) (VA.mono h2 hP02.le)
        exact .func' (.yield (K.add_same _ _ ⟨w1.heap.size, 0, 0⟩)) .nil .nil
      obtain ⟨⟨fnr, cr, hfr, hbr⟩, hcall⟩ := hC.fn _ _ _ g _ _ v2 σ2 (hK.mono hP02.le) hR2 hargs hc
      have hname : fnr.name ≠ "runtime.NumGoroutine" := by simpa using G.num g fnr hfr
      refine ⟨_, mark, _, { target := .fn (.func g) cap, args := first ++ #[.func (.yield w1.heap.size) #[] #[]] }, w1.alloc (.loop rc), g, _, w1.alloc (.loop rc), henter, ?_, fun f' _ => FW.fn ro f', ?_, FW.depth ro, FW.calls (CallsIn.mono hcall ?_)⟩
      · have e1 : (rangeCall f w1.heap.size).args.map ({ a with } : Act).eval = #[.func (.yield w1.heap.size) #[] #[]] := by simp [Act.eval]
        show (Deferred.ofValue (a.eval f) ((rangeCall f w1.heap.size).args.map a.eval)).run E.P _ = _
        rw [hfa, e1]
        rfl
      · simp [invoke, callFunc, hfr, hname, hbr, Sem.run_bind, Result.andThen]
      · rintro en w3 ⟨v3, κ3, rfl, _, hR3, hP3⟩
        cases hg : σ2.get σ1.n with
        | none => rw [hg] at h; simp at h
        | some o =>
          rw [hg] at h
          cases o <;> first | (simp at h; done) | skip
          rename_i st pd t n ps' as' bd' df' vr
          have hk3 := hP3.le _ _ (K.add_same κ1 σ1.n ⟨w1.heap.size, 0, 0⟩)
          obtain ⟨r, hr, hL3⟩ := hR3.cont _ _ _ hk3 hg
          have hpd := hL3.pending
          subst hpd
          have hst : st ≠ .busy ∧ sjump { s with marks } (σ2.setObj σ1.n (.loop .exhausted r.pending t n ps' as' bd' df' (vr + 1))) r.pending = some (e, s', σ') := by
            cases st <;> first | (simp at h; done) | exact ⟨by decide, h⟩
          obtain ⟨hR4, hP4⟩ := hR3.upd (w' := w3.putObj w1.heap.size (.loop { r with state := .exhausted })) (o' := .loop .exhausted r.pending t n ps' as' bd' df' (vr + 1)) hk3 hg (v := vr) rfl (by intro u hu; simp only [Sh.ver, Option.some.injEq] at hu; omega)
            (heap_set_size _ _ _) (fun x hx => heap_set_ne _ _ hx) rfl rfl rfl ⟨_, heap_set_same _ _ (hR3.dom _ _ hk3).2, ⟨rfl, hL3.pending, hL3.tmps, hL3.params, hL3.assign, hL3.body, hL3.defers, hL3.ok⟩⟩
          refine ⟨r.pending, _, run_endLoop hr (by rw [hL3.state]; exact hst.1), ?_⟩
          have hP04 := hR.post_trans hR3 (hR.post_trans hR2 hP02 hP3) hP4
          have hj := jump_follows (E := E) (ro := ro) (Q := Ends κ σ w e s' σ') hst.2 (ha1.mono (K.le_trans hP2.le (K.le_trans hP3.le hP4.le))) hR4 hP04 fun x a' w' hx => hx
          exact hj

theorem code_follows (G : Good E) {C : SCall} (hC : CSim E C) (hD : DrawSim E C) (k : Nat) (rd ro : Option Nat) (c : Code) : FollowsL E (scode E C k rd c) c rd ro := by
  induction c with
  | skip =>
    refine ⟨fun κ σ w a s e s' σ' hX hV hR ha h => ?_, fun l rest hf => by simp [findLabel] at hf⟩
    simp only [scode, Option.some.injEq, Prod.mk.injEq] at h
    obtain ⟨rfl, rfl, rfl⟩ := h
    exact wpIn_skip ⟨rfl, κ, ha, hR, Post.refl _ _ _⟩
  | region id ops dr =>
    refine ⟨fun κ σ w a s e s' σ' hX hV hR ha h => ?_, fun l rest hf => by simp [findLabel] at hf⟩
    simp only [scode] at h
    exact region_follows G hC hD id ops dr κ σ w a s e s' σ' hX hV hR ha h
  | cond c x y ih1 ih2 =>
    refine ⟨fun κ σ w a s e s' σ' hX hV hR ha h => ?_, fun l rest hf => by simp [findLabel] at hf⟩
    simp only [scode] at h
    have hc := ha.eval hV.1
    generalize hcs : s.eval c = c' at h hc
    generalize hca : a.eval c = cr at hc
    cases hc <;> first | (simp at h; done) | skip
    rename_i b
    cases b with
    | true => exact wpIn_cond_true hca (ih1.1 κ σ w a s e s' σ' hX hV.2.1 hR ha h)
    | false => exact wpIn_cond_false hca (ih2.1 κ σ w a s e s' σ' hX hV.2.2 hR ha h)
  | block id c ih =>
    refine ⟨fun κ σ w a s e s' σ' hX hV hR ha h => ?_, fun l rest hf => by simp [findLabel] at hf⟩
    simp only [scode] at h
    cases hr : scode E C k rd c none s σ with
    | none => rw [hr] at h; simp at h
    | some x =>
      obtain ⟨e1, s1, σ1⟩ := x
      rw [hr] at h
      refine wpIn_block (wpIn_mono (ih.1 κ σ w a s e1 s1 σ1 hX hV hR ha hr) fun x a1 w1 hx => ?_)
      have hx0 := hx
      obtain ⟨he, κ1, ha1, hR1, hP1⟩ := hx
      cases e1 <;> simp only at he h <;> subst he
      case exit id' =>
        simp only [Exit.inBlock]
        cases hb : Nat.beq id' id with
        | true =>
          rw [hb] at h
          simp only [cond_true, Option.some.injEq, Prod.mk.injEq] at h
          obtain ⟨rfl, rfl, rfl⟩ := h
          rw [if_pos (Nat.eq_of_beq_eq_true hb)]
          exact ⟨rfl, κ1, ha1, hR1, hP1⟩
        | false =>
          rw [hb] at h
          simp only [cond_false, Option.some.injEq, Prod.mk.injEq] at h
          obtain ⟨rfl, rfl, rfl⟩ := h
          rw [if_neg (Nat.ne_of_beq_eq_false hb)]
          exact hx0
      all_goals
        simp only [Option.some.injEq, Prod.mk.injEq] at h
        obtain ⟨rfl, rfl, rfl⟩ := h
        exact hx0
  | loop c ih =>
    refine ⟨fun κ σ w a s e s' σ' hX hV hR ha h => ?_, fun l rest hf => by simp [findLabel] at hf⟩
    simp only [scode] at h
    exact wpIn_loopN (loop_follows ih.1 k hX hV hR ha h fun x a' w' hx => hx)
  | scope c ih =>
    refine ⟨fun κ σ w a s e s' σ' hX hV hR ha h => ?_, fun l rest hf => by simp [findLabel] at hf⟩
    simp only [scode] at h
    exact wpIn_scopeN (scope_follows ih k none c rfl hX hV hR ha h fun x a' w' hx => hx)
  | rangeFunc f ps as bd _ _ =>
    refine ⟨fun κ σ w a s e s' σ' hX hV hR ha h => ?_, fun l rest hf => by simp [findLabel] at hf⟩
    simp only [scode] at h
    exact range_follows G hC κ σ w a s e s' σ' hX hV hR ha h
  | exit id =>
    refine ⟨fun κ σ w a s e s' σ' hX hV hR ha h => ?_, fun l rest hf => by simp [findLabel] at hf⟩
    simp only [scode, Option.some.injEq, Prod.mk.injEq] at h
    obtain ⟨rfl, rfl, rfl⟩ := h
    exact wpIn_exit ⟨rfl, κ, ha, hR, Post.refl _ _ _⟩
  | goto l =>
    refine ⟨fun κ σ w a s e s' σ' hX hV hR ha h => ?_, fun l rest hf => by simp [findLabel] at hf⟩
    simp only [scode, Option.some.injEq, Prod.mk.injEq] at h
    obtain ⟨rfl, rfl, rfl⟩ := h
    exact wpIn_goto ⟨rfl, κ, ha, hR, Post.refl _ _ _⟩
  | ret =>
    refine ⟨fun κ σ w a s e s' σ' hX hV hR ha h => ?_, fun l rest hf => by simp [findLabel] at hf⟩
    simp only [scode, Option.some.injEq, Prod.mk.injEq] at h
    obtain ⟨rfl, rfl, rfl⟩ := h
    exact wpIn_ret ⟨rfl, κ, ha, hR, Post.refl _ _ _⟩
  | refuse why =>
    refine ⟨fun κ σ w a s e s' σ' hX hV hR ha h => ?_, fun l rest hf => by simp [findLabel] at hf⟩
    simp [scode] at h
  | label l' =>
    refine ⟨fun κ σ w a s e s' σ' hX hV hR ha h => ?_, fun l rest hf κ σ w a s e s' σ' hX hV hR ha h => ?_⟩
    · simp only [scode, Option.some.injEq, Prod.mk.injEq] at h
      obtain ⟨rfl, rfl, rfl⟩ := h
      exact wpIn_label ⟨rfl, κ, ha, hR, Post.refl _ _ _⟩
    · simp only [findLabel] at hf
      split at hf
      · simp only [Option.some.injEq] at hf
        subst hf
        simp only [scode] at h
        cases hb : Nat.beq l' l with
        | false => rw [hb] at h; simp at h
        | true =>
          rw [hb] at h
          simp only [Option.some.injEq, Prod.mk.injEq] at h
          obtain ⟨rfl, rfl, rfl⟩ := h
          exact wpIn_skip ⟨rfl, κ, ha, hR, Post.refl _ _ _⟩
      · cases hf
  | seq x y ih1 ih2 =>
    have both : ∀ (fr : Option Nat) (rx : Code), (∀ κ σ w a s e s' σ', Cx E κ rd ro → CodeV κ rx → Rel κ σ w → AcR κ a s → scode E C k rd x fr s σ = some (e, s', σ') → rx.wpIn (FW ro) 0 E.P (Ends κ σ w e s' σ') a w) →
        ∀ κ σ w a s e s' σ', Cx E κ rd ro → CodeV κ rx → CodeV κ y → Rel κ σ w → AcR κ a s → (match scode E C k rd x fr s σ with | some (.normal, a', σ') => scode E C k rd y none a' σ' | r => r) = some (e, s', σ') → (Code.seq rx y).wpIn (FW ro) 0 E.P (Ends κ σ w e s' σ') a w := by
      intro fr rx hx κ σ w a s e s' σ' hX hVx hVy hR ha h
      cases hr : scode E C k rd x fr s σ with
      | none => rw [hr] at h; simp at h
      | some q =>
        obtain ⟨e1, s1, σ1⟩ := q
        rw [hr] at h
        refine wpIn_seq (wpIn_mono (hx κ σ w a s e1 s1 σ1 hX hVx hR ha hr) fun x a1 w1 hx => ?_)
        have hx0 := hx
        obtain ⟨he, κ1, ha1, hR1, hP1⟩ := hx
        cases e1 <;> simp only at he h <;> subst he
        case normal => exact wpIn_mono (ih2.1 κ1 σ1 w1 a1 s1 e s' σ' (hX.mono hP1.le) (hVy.mono hP1.le) hR1 ha1 h) fun x a' w' hx => Ends.trans hR hR1 hP1 hx
        all_goals
          simp only [Option.some.injEq, Prod.mk.injEq] at h
          obtain ⟨rfl, rfl, rfl⟩ := h
          exact hx0
    refine ⟨fun κ σ w a s e s' σ' hX hV hR ha h => ?_, fun l rest hf κ σ w a s e s' σ' hX hV hR ha h => ?_⟩
    · simp only [scode] at h
      exact both none x ih1.1 κ σ w a s e s' σ' hX hV.1 hV.2 hR ha h
    · simp only [scode] at h
      simp only [findLabel] at hf
      cases hl : findLabel x l with
      | some rx =>
        rw [hl] at hf
        simp only [Option.some.injEq] at hf
        subst hf
        have hh : hasLabel x l = true := by rw [hasLabel_find, hl]; rfl
        rw [hh] at h
        exact both (some l) rx (ih1.2 l rx hl) κ σ w a s e s' σ' hX hV.1 hV.2 hR ha h
      | none =>
        rw [hl] at hf
        have hh : hasLabel x l = false := by rw [hasLabel_find, hl]; rfl
        rw [hh] at h
        exact ih2.2 l rest hf κ σ w a s e s' σ' hX hV hR ha h
end
end Go.Sh

namespace Go.Sh
open Go

section
variable {E : Env} {κ : K} {σ : SW} {w : World}

theorem ofArgs_get : ∀ (l : List Value) (i : Nat) (t : T Value), i + l.length + 1 < 2 ^ bits → ∀ j, (ofArgs l i t).get j = if i ≤ j ∧ j < i + l.length then l[j - i]? else t.get j
  | [], i, t, _, j => by
    have : ¬ (i ≤ j ∧ j < i + ([] : List Value).length) := by simp only [List.length_nil]; omega
    rw [if_neg this]; rfl
  | v :: r, i, t, hb, j => by
    simp only [List.length_cons] at hb
    rw [ofArgs, ofArgs_get r (i + 1) _ (by omega) j]
    by_cases h1 : i + 1 ≤ j ∧ j < i + 1 + r.length
    · have h2 : i ≤ j ∧ j < i + (v :: r).length := by simp only [List.length_cons]; omega
      rw [if_pos h1, if_pos h2]
      have : j - i = (j - (i + 1)) + 1 := by omega
      rw [this]; simp
    · rw [if_neg h1]
      by_cases hj : j = i
      · subst hj
        have h2 : j ≤ j ∧ j < j + (v :: r).length := by simp
        rw [if_pos h2, T.get_set_lt t (by omega)]
        simp
      · have h2 : ¬ (i ≤ j ∧ j < i + (v :: r).length) := by simp only [List.length_cons]; omega
        rw [if_neg h2, T.get_set_ne hj]

theorem acr_start {args args' : Array Value} {n : Nat} (ha : VA κ args args') (h1 : args'.toList.length ≤ n) (h2 : n + 1 < 2 ^ bits) :
    AcR κ { tmps := args ++ Array.replicate (n - args.size) undef, defers := [] } ⟨ofArgs args'.toList 0 .nil, n, []⟩ := by
  have hsz := ha.size
  have hl : args'.toList.length = args'.size := by simp
  refine ⟨⟨by simp; omega, h2, fun i => ?_⟩, .nil⟩
  rw [ofArgs_get _ _ _ (by omega)]
  simp only [Nat.zero_le, true_and, Nat.zero_add, Nat.sub_zero, Array.getD_eq_getD_getElem?]
  by_cases hi : i < args'.toList.length
  · rw [if_pos hi]
    have hi' : i < args.size := by omega
    obtain ⟨v, hv, hr⟩ := va_at ha (i := i) (v' := args'[i]'(by omega)) (by simp)
    have e1 : (args ++ Array.replicate (n - args.size) undef)[i]? = some v := by
      rw [Array.getElem?_append_left hi', hv]
    have e2 : args'.toList[i]? = some (args'[i]'(by omega)) := by simp
    rw [e1, e2]
    exact hr
  · rw [if_neg hi]
    have e2 : (T.nil : T Value).get i = none := T.get_nil i
    rw [e2]
    have : ((args ++ Array.replicate (n - args.size) undef)[i]?).getD undef = undef := by
      rw [Array.getElem?_append_right (by omega)]
      by_cases h : i - args.size < n - args.size
      · simp [h]
      · simp [h]
    rw [this]
    exact .undef

def resAt (tmps : Array Value) : ResultVar → Sem Value
  | .tmp t => pure (tmps.getD t undef)
  | .cell x t => do loadVar t (← asAddr (tmps.getD x undef))

theorem r_results {l : List ResultVar} {a : Act} {s : SAct} (hR : Rel κ σ w) (ha : AcR κ a s) : ∀ {vs' : List Value}, sresults E s σ l = some vs' →
    ∃ vs, (l.mapM (resAt a.tmps)).run E.P w = .ok vs w ∧ F2 (V κ) vs vs' := by
  induction l with
  | nil =>
    intro vs' h
    simp only [sresults, Option.some.injEq] at h
    subst h
    exact ⟨[], by simp, .nil⟩
  | cons r l ih =>
    intro vs' h
    cases r with
    | tmp t =>
      simp only [sresults] at h
      cases hs : sresults E s σ l with
      | none => rw [hs] at h; simp at h
      | some v2 =>
        rw [hs] at h
        simp only [Option.map_some, Option.some.injEq] at h
        subst h
        obtain ⟨vs, h1, h2⟩ := ih hs
        refine ⟨a.tmps.getD t undef :: vs, ?_, .cons (ha.tm.vals t) h2⟩
        rw [List.mapM_cons, Sem.run_bind]
        simp only [resAt, Sem.run_pure, Result.andThen, Sem.run_bind]
        rw [h1]
    | cell x t =>
      simp only [sresults] at h
      have hv := ha.tm.vals x
      generalize (s.t.get x).getD undef = q at h hv
      generalize hq : a.tmps.getD x undef = qr at hv
      cases hv <;> first | (simp at h; done) | skip
      rename_i sb off bi hk
      simp only at h
      cases hl : sload E t (.pointer (some ⟨sb, off, none⟩)) σ with
      | none => rw [hl] at h; simp at h
      | some p =>
        obtain ⟨v, σ1⟩ := p
        rw [hl] at h
        simp only at h
        cases hs : sresults E s σ l with
        | none => rw [hs] at h; simp at h
        | some v2 =>
          rw [hs] at h
          simp only [Option.map_some, Option.some.injEq] at h
          subst h
          obtain ⟨vs, h1, h2⟩ := ih hs
          obtain ⟨_, u, hu, huv⟩ := r_loadAt hR (.ptr hk) hl
          refine ⟨u :: vs, ?_, .cons huv h2⟩
          have hlv : (loadVar t ⟨bi.r, off + bi.d, none⟩).run E.P w = .ok u w := by
            simp only [Instr.loadAt, Instr.sureAddr, Sem.run_bind, Sem.run_pure, Result.andThen] at hu
            exact hu
          rw [List.mapM_cons, Sem.run_bind]
          simp only [resAt, hq, asAddr, Sem.run_bind, Sem.run_pure, Result.andThen, hlv]
          rw [h1]

theorem run_results {fn : Func} {a : Act} {s : SAct} (hR : Rel κ σ w) (ha : AcR κ a s) {v' : Value} (h : (match sresults E s σ fn.results.toList with | some [v] => some v | some vs => some (.tuple vs.toArray) | none => none) = some v') :
    ∃ v, (results fn a.tmps).run E.P w = .ok v w ∧ V κ v v' := by
  cases hs : sresults E s σ fn.results.toList with
  | none => rw [hs] at h; simp at h
  | some vs' =>
    rw [hs] at h
    obtain ⟨vs, h1, h2⟩ := r_results (E := E) hR ha hs
    have hrun : (fn.results.mapM (resAt a.tmps)).run E.P w = .ok ⟨vs⟩ w := by
      rw [Array.mapM_eq_mapM_toList, Sem.run_map, h1]
      rfl
    have hres : (results fn a.tmps).run E.P w = .ok (if h : (⟨vs⟩ : Array Value).size = 1 then (⟨vs⟩ : Array Value)[0] else .tuple ⟨vs⟩) w := by
      have e : results fn a.tmps = (do let vs ← fn.results.mapM (resAt a.tmps); pure (if h : vs.size = 1 then vs[0] else .tuple vs)) := by
        unfold results
        congr 1
      rw [e, Sem.run_bind, hrun]
      rfl
    refine ⟨_, hres, ?_⟩
    cases h2 with
    | nil =>
      simp only [Option.some.injEq] at h
      subst h
      exact .tuple' .nil
    | cons hv ht =>
      cases ht with
      | nil =>
        simp only [Option.some.injEq] at h
        subst h
        exact hv
      | cons hv2 ht2 =>
        simp only [Option.some.injEq] at h
        subst h
        rw [dif_neg (by simp)]
        exact .tuple' (.cons hv (.cons hv2 ht2))

theorem r_leaves {fn : Func} {tmps : Array Value} {R : Ending → World → Prop} : ∀ {ds : List Deferred} {ms : List Nat} {σ : SW} {w : World} {σ' : SW}, F2 (fun d m => ∃ bi, κ m = some bi ∧ d = ({ target := .collected bi.r, args := #[] } : Deferred)) ds ms →
    Rel κ σ w → sunmark ms σ = some σ' → (∀ w', Rel κ σ' w' → Post κ κ σ σ' w w' → ∃ v, (results fn tmps).run E.P w' = .ok v w' ∧ R (.returned v) w') → LeavesInM Fence.wide 0 E.P fn tmps R ds .returning w := by
  intro ds ms σ w σ' hf
  induction hf generalizing σ w with
  | nil =>
    intro hR h hQ
    simp only [sunmark, Option.some.injEq] at h
    subst h
    unfold LeavesInM LeavesIn
    exact hQ w hR (Post.refl _ _ _)
  | cons hd _ ih =>
    intro hR h hQ
    obtain ⟨bi, hk, rfl⟩ := hd
    simp only [sunmark] at h
    rename_i m ds ms _
    cases hg : σ.get m with
    | none => rw [hg] at h; simp at h
    | some o =>
      rw [hg] at h
      cases o <;> first | (simp at h; done) | skip
      rename_i vr
      simp only at h
      have hreal := hR.cont _ _ _ hk hg
      obtain ⟨hR', hP'⟩ := hR.upd (w' := w.putObj bi.r (.deferred none)) (o' := .spent) hk hg (v := vr) rfl (by intro u hu; simp [Sh.ver] at hu)
        (heap_set_size _ _ _) (fun x hx => heap_set_ne _ _ hx) rfl rfl rfl (heap_set_same _ _ (hR.dom _ _ hk).2)
      unfold LeavesInM
      refine ⟨by simp, .inl ⟨bi.r, _, rfl, run_takeDeferred hreal, ih hR' h fun w' hR2 hP2 => hQ w' hR2 (hR.post_trans hR' hP' hP2)⟩⟩

theorem params_rel : ∀ (l : List (Tmp × Value)) (l' : List (Tmp × Value)), F2 (fun x y => x.1 = y.1 ∧ V κ x.2 y.2) l l' → ∀ {tmps : Array Value} {t t' : T Value} {n : Nat}, TMR κ tmps t n → setParams l' n t = some t' →
    TMR κ (l.foldl (fun tmps x => tmps.setIfInBounds x.1 x.2) tmps) t' n := by
  intro l l' hf
  induction hf with
  | nil =>
    intro tmps t t' n ht h
    simp only [setParams, Option.some.injEq] at h
    subst h
    exact ht
  | @cons x y l l' hxy _ ih =>
    intro tmps t t' n ht h
    obtain ⟨p, v⟩ := x
    obtain ⟨p', v'⟩ := y
    obtain ⟨rfl, hv⟩ := hxy
    simp only [setParams] at h
    cases hb : Nat.blt p n with
    | false => rw [hb] at h; simp at h
    | true =>
      rw [hb] at h
      simp only [cond_true] at h
      exact ih (ht.set (by simpa [Nat.blt_eq] using hb) hv) h

theorem call_sim (G : Good E) (hD : ∀ C, CSim E C → DrawSim E C) (k : Nat) : ∀ d, CSim E (scall E k d) := by
  intro d
  induction d with
  | zero =>
    refine ⟨fun κ σ w f args args' v' σ' _ _ _ h => ?_, fun κ σ w l s args args' v' σ' _ _ _ _ h => ?_⟩
    · simp [scall] at h
    · simp [scall] at h
  | succ d ih =>
    have hDr := hD _ ih
    refine ⟨fun κ σ w f args args' v' σ' hK hR ha h => ?_, fun κ σ w l s args args' v' σ' hK hR hl ha h => ?_⟩
    · simp only [scall] at h
      cases hfg : sguarded (Nat.blt f E.nf) (E.P.funcs[f]?) with
      | none => rw [hfg] at h; simp at h
      | some fn =>
        rw [hfg] at h
        obtain ⟨hnf, hf⟩ := of_guard_lt hfg
        simp only at h
        cases hb : fn.body with
        | none => rw [hb] at h; simp at h
        | some c =>
          rw [hb] at h
          cases hcond : (Nat.ble args'.toList.length fn.ntmps && Nat.blt (fn.ntmps + 1) 16777216) with
          | false => rw [hcond] at h; simp at h
          | true =>
            rw [hcond] at h
            simp only at h
            simp only [Bool.and_eq_true] at hcond
            have hc1 := Nat.le_of_ble_eq_true hcond.1
            have hc2 : fn.ntmps + 1 < 2 ^ bits := by
              have : fn.ntmps + 1 < 16777216 := by simpa [Nat.blt_eq] using hcond.2
              simpa [bits] using this
            refine ⟨⟨fn, c, hf, hb⟩, ?_⟩
            cases hs : scode E (scall E k d) k none c none ⟨ofArgs args'.toList 0 .nil, fn.ntmps, []⟩ σ with
            | none => rw [hs] at h; simp at h
            | some x =>
              obtain ⟨e, s1, σ1⟩ := x
              rw [hs] at h
              have hfol := (code_follows G ih hDr k none none c).1 κ σ w _ _ e s1 σ1 ⟨hK, trivial⟩ (hK f fn c hnf hf hb) hR (acr_start ha hc1 hc2) hs
              refine callsIn_of_wp_marks hf hb trivial (wpIn_mono hfol fun x a1 w1 hx => ?_)
              obtain ⟨he, κ1, ha1, hR1, hP1⟩ := hx
              have fin : sleave E fn s1 σ1 = some (v', σ') → LeavesInM Fence.wide 0 E.P fn a1.tmps (Got κ σ w v' σ') a1.defers .returning w1 := by
                intro h
                unfold sleave at h
                cases hu : sunmark s1.marks σ1 with
                | none => rw [hu] at h; simp at h
                | some σ2 =>
                  rw [hu] at h
                  simp only at h
                  refine r_leaves (κ := κ1) ha1.df hR1 hu fun w2 hR2 hP2 => ?_
                  have hh : (match sresults E s1 σ2 fn.results.toList with | some [v] => some v | some vs => some (.tuple vs.toArray) | none => none) = some v' ∧ σ2 = σ' := by
                    cases hs : sresults E s1 σ2 fn.results.toList with
                    | none => rw [hs] at h; simp at h
                    | some vs =>
                      rw [hs] at h
                      match vs, h with
                      | [], h => simp only [Option.some.injEq, Prod.mk.injEq] at h; exact ⟨by rw [← h.1], h.2⟩
                      | [v], h => simp only [Option.some.injEq, Prod.mk.injEq] at h; exact ⟨by rw [← h.1], h.2⟩
                      | v :: u :: r, h => simp only [Option.some.injEq, Prod.mk.injEq] at h; exact ⟨by rw [← h.1], h.2⟩
                  obtain ⟨hh, rfl⟩ := hh
                  obtain ⟨v, hv, hr⟩ := run_results (E := E) hR2 ha1 hh
                  exact ⟨v, hv, v, κ1, rfl, hr, hR2, hR.post_trans hR1 hP1 hP2⟩
              cases e <;> simp only at he h <;> subst he
              · exact fin h
              · simp at h
              · simp at h
              · exact fin h
    · simp only [scall] at h
      unfold sround at h
      have hl0 := hl
      obtain ⟨bi, hb, rfl⟩ := hl
      cases hg : σ.get s with
      | none => rw [hg] at h; simp at h
      | some o =>
        rw [hg] at h
        cases o <;> first | (simp at h; done) | skip
        rename_i st pd t n ps as bd df vr
        cases st <;> first | (simp at h; done) | skip
        simp only at h
        obtain ⟨r, hr, hL⟩ := hR.cont _ _ _ hb hg
        cases hsz : Nat.beq args'.size ps.size with
        | false => rw [hsz] at h; simp at h
        | true =>
          cases hsp : setParams (ps.toList.zip args'.toList) n t with
          | none => rw [hsz, hsp] at h; simp at h
          | some t' =>
            rw [hsz, hsp] at h
            simp only at h
            have hsz' := Nat.eq_of_beq_eq_true hsz
            have hyield := run_yield (P := E.P) (args := args) hr (by rw [ha.size, hsz', hL.params])
            refine ⟨_, _, _, _, hyield, ?_⟩
            have hT : TMR κ ((r.params.zip args).foldl (fun tmps (x : Tmp × Value) => tmps.setIfInBounds x.1 x.2) r.tmps) t' n := by
              rw [← Array.foldl_toList, Array.toList_zip]
              refine params_rel _ _ ?_ hL.tmps hsp
              rw [hL.params]
              exact F2.zip ps.toList ha
            cases hs : scode E (scall E k d) k (some s) as none ⟨t', n, []⟩ σ with
            | none => rw [hs] at h; simp at h
            | some x =>
              obtain ⟨e1, a1, σ1⟩ := x
              rw [hs] at h
              cases e1 <;> first | (simp at h; done) | skip
              simp only at h
              have hfol := (code_follows G ih hDr k (some s) (some bi.r) as).1 κ σ w { tmps := (r.params.zip args).foldl (fun tmps (x : Tmp × Value) => tmps.setIfInBounds x.1 x.2) r.tmps, defers := [] } ⟨t', n, []⟩ .normal a1 σ1 ⟨hK, hl0⟩ hL.ok.1 hR ⟨hT, .nil⟩ hs
              refine roundIn_of_wpIn trivial ?_
              rw [hL.assign, hL.body]
              refine wpIn_mono hfol fun x ra1 w1 hx => ?_
              obtain ⟨he, κ1, ha1, hR1, hP1⟩ := hx
              simp only at he
              subst he
              simp only [Exit.then]
              have hb1 := hP1.le _ _ hb
              cases hg1 : σ1.get s with
              | none => rw [hg1] at h; simp at h
              | some o1 =>
                rw [hg1] at h
                cases o1 <;> first | (simp at h; done) | skip
                rename_i st1 pd1 t1 n1 ps1 as1 bd1 df1 vr1
                cases st1 <;> first | (simp at h; done) | skip
                simp only at h
                obtain ⟨r1, hr1, hL1⟩ := hR1.cont _ _ _ hb1 hg1
                obtain ⟨hR2, hP2⟩ := hR1.upd (w' := w1.putObj bi.r (.loop { r1 with state := .busy })) (o' := .loop .busy pd1 t1 n1 ps1 as1 bd1 df1 (vr1 + 1)) hb1 hg1 (v := vr1) rfl (by intro u hu; simp only [Sh.ver, Option.some.injEq] at hu; omega)
                  (heap_set_size _ _ _) (fun x hx => heap_set_ne _ _ hx) rfl rfl rfl ⟨_, heap_set_same _ _ (hR1.dom _ _ hb1).2, ⟨rfl, hL1.pending, hL1.tmps, hL1.params, hL1.assign, hL1.body, hL1.defers, hL1.ok⟩⟩
                refine ⟨_, run_beginRound hr1 hL1.state, ?_⟩
                cases hs2 : scode E (scall E k d) k (some s) bd none a1 (σ1.setObj s (.loop .busy pd1 t1 n1 ps1 as1 bd1 df1 (vr1 + 1))) with
                | none => rw [hs2] at h; simp at h
                | some x =>
                  obtain ⟨e2, a2, σ2⟩ := x
                  rw [hs2] at h
                  simp only at h
                  have hle2 := K.le_trans hP1.le hP2.le
                  have hfol2 := (code_follows G ih hDr k (some s) (some bi.r) bd).1 κ1 _ _ ra1 a1 e2 a2 σ2 ⟨hK.mono hle2, hl0.mono hle2⟩ (hL.ok.2.mono hle2) hR2 (ha1.mono hP2.le) hs2
                  refine wpIn_mono hfol2 fun x ra2 w3 hx => ?_
                  obtain ⟨he2, κ3, ha3, hR3, hP3⟩ := hx
                  have hb3 := hP3.le _ _ hb1
                  cases hg2 : σ2.get s with
                  | none => rw [hg2] at h; simp at h
                  | some o2 =>
                    rw [hg2] at h
                    cases o2 <;> first | (simp at h; done) | skip
                    rename_i st2 pd2 t2 n2 ps2 as2 bd2 df2 vr2
                    simp only at h
                    obtain ⟨r2, hr2, hL2⟩ := hR3.cont _ _ _ hb3 hg2
                    have hP03 := hR.post_trans hR2 (hR.post_trans hR1 hP1 hP2) hP3
                    have fin : ∀ (jump : Option Code) (b : Bool), b = jump.isNone → some (Value.bool b, σ2.setObj s (.loop (if jump.isNone then .ready else .done) jump t2 n2 ps2 as2 bd2 df2 (vr2 + 1))) = some (v', σ') →
                        ∃ v w', (Instr.endRound bi.r jump).run E.P w3 = .ok v w' ∧ Got κ σ w v' σ' (.returned v) w' := by
                      rintro jump b rfl hh
                      simp only [Option.some.injEq, Prod.mk.injEq] at hh
                      obtain ⟨rfl, rfl⟩ := hh
                      obtain ⟨hR4, hP4⟩ := hR3.upd (w' := w3.putObj bi.r (.loop { r2 with state := if jump.isNone then .ready else .done, pending := jump })) (o' := .loop (if jump.isNone then .ready else .done) jump t2 n2 ps2 as2 bd2 df2 (vr2 + 1)) hb3 hg2 (v := vr2) rfl (by intro u hu; simp only [Sh.ver, Option.some.injEq] at hu; omega)
                        (heap_set_size _ _ _) (fun x hx => heap_set_ne _ _ hx) rfl rfl rfl ⟨_, heap_set_same _ _ (hR3.dom _ _ hb3).2, ⟨rfl, rfl, hL2.tmps, hL2.params, hL2.assign, hL2.body, hL2.defers, hL2.ok⟩⟩
                      exact ⟨_, _, run_endRound jump hr2, _, κ3, rfl, .bool _, hR4, hR.post_trans hR3 hP03 hP4⟩
                    cases e2 <;> simp only at he2 h <;> subst he2
                    · exact fin none _ rfl h
                    · exact fin (some (.exit _)) _ rfl h
                    · exact fin (some (.goto _)) _ rfl h
                    · exact fin (some .ret) _ rfl h
end
end Go.Sh
