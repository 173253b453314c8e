/- Single operations of the shadow are operations of the model, first part. Conditions: as each theorem names them. -/
import Derived.Test.YtffdpbhkkflgnaaGreatDoorShB
import Derived.Laws.Strings
import Derived.Laws.Cells
import Derived.Lib.Strings

namespace Go.Sh
open Go

section
variable {P : Program} {κ : K} {α β γ δ : Type}

abbrev Eqs {α : Type} (p : α → Prop) : K → α → α → Prop := fun _ a b => a = b ∧ p a

theorem tr_prog : TR P (Eqs (P = ·)) κ Go.program Go.program := .program (.pure ⟨rfl, rfl⟩)
theorem tr_stuckR {R : K → α → β → Prop} {t : Sem α} {s : String} : TR P R κ t (stuck s) := .fails fun _ => rfl
theorem tr_unsuppR {R : K → α → β → Prop} {t : Sem α} {u : Unsupported} : TR P R κ t (unsupported u) := .fails fun _ => rfl
theorem fails_bind (t : Sem α) (f : α → Sem β) (h : ∀ a σ, srun P (f a) σ = none) (σ : SW) : srun P (t >>= f) σ = none := by
  show srun P (t.bind f) σ = none
  rw [srun_bind]
  cases srun P t σ with
  | none => rfl
  | some x => exact h x.1 x.2
theorem fails_runtimePanic (e : RuntimeError) (σ : SW) : srun P (runtimePanic (α := α) e) σ = none := by
  unfold runtimePanic
  refine fails_bind _ _ (fun p σ => ?_) σ
  cases e <;> first
    | rfl
    | (refine fails_bind _ _ (fun r σ => ?_) σ; refine fails_bind _ _ (fun r σ => ?_) σ; rfl)
theorem tr_panicR {R : K → α → β → Prop} {t : Sem α} {e : RuntimeError} : TR P R κ t (runtimePanic e) := .fails (fails_runtimePanic e)
theorem fails_boundsPanic (k : IntKind) (x y : Int) (c : BoundsCode) (σ : SW) : srun P (boundsPanic (α := α) k x y c) σ = none := by
  unfold boundsPanic
  dsimp only
  split
  · exact fails_bind _ _ (fun _ σ => fails_runtimePanic _ σ) σ
  · exact fails_bind _ _ (fun _ σ => fails_runtimePanic _ σ) σ
theorem tr_boundsR {R : K → α → β → Prop} {t : Sem α} {k : IntKind} {x y : Int} {c : BoundsCode} : TR P R κ t (boundsPanic k x y c) := .fails (fails_boundsPanic k x y c)

theorem tr_typeInfo {t : TypeId} : TR P (Eqs fun i => P.info? t = some i) κ (typeInfo t) (typeInfo t) := by
  unfold Go.typeInfo
  refine TR.bind tr_prog ?_
  rintro κ' _ _ hk ⟨rfl, rfl⟩
  cases h : P.info? t with
  | none => exact tr_stuckR
  | some i => exact .pure ⟨rfl, rfl⟩
theorem tr_underlying {t : TypeId} : TR P (Eqs fun d => P.underlying t = some d) κ (underlying t) (underlying t) := by
  unfold Go.underlying
  refine TR.bind tr_prog ?_
  rintro κ' _ _ hk ⟨rfl, rfl⟩
  cases h : P.underlying t with
  | none => exact tr_stuckR
  | some i => exact .pure ⟨rfl, rfl⟩
theorem tr_sizeOf {t : TypeId} : TR P (Eqs fun n => ∃ i, P.info? t = some i ∧ i.size = n) κ (sizeOf t) (sizeOf t) := by
  unfold Go.sizeOf
  refine TR.bind tr_typeInfo ?_
  rintro κ' a _ hk ⟨rfl, h⟩
  exact .pure ⟨rfl, a, h, rfl⟩
theorem tr_isAgg {t : TypeId} : TR P (Eqs fun _ => True) κ (isAgg t) (isAgg t) := by
  unfold Go.isAgg
  refine TR.bind tr_underlying ?_
  rintro κ' a _ hk ⟨rfl, h⟩
  cases a <;> exact .pure ⟨rfl, trivial⟩

theorem of_guard {α : Type} {b : Bool} {x : Option α} {y : α} (h : sguarded b x = some y) : b = true ∧ x = some y := by
  cases b with
  | true => exact ⟨rfl, h⟩
  | false => cases h
theorem of_guard_lt {α : Type} {a n : Nat} {x : Option α} {y : α} (h : sguarded (Nat.blt a n) x = some y) : a < n ∧ x = some y := by
  obtain ⟨h1, h2⟩ := of_guard h
  exact ⟨by simpa [Nat.blt_eq] using h1, h2⟩

/-- The program's zero values lead to no memory. -/
def ZP (P : Program) (n : Nat) : Prop := ∀ t i z, t < n → P.info? t = some i → i.zero = some z → ∀ κ, V κ z z

theorem tr_zeroValue {n : Nat} (hz : ZP P n) {t : TypeId} (ht : t < n) : TR P (fun κ a b => a = b ∧ V κ a b) κ (zeroValue t) (zeroValue t) := by
  unfold Go.zeroValue
  refine TR.bind tr_typeInfo ?_
  rintro κ' a _ hk ⟨rfl, h⟩
  cases hzz : a.zero with
  | none => exact tr_unsuppR
  | some z => exact .pure ⟨rfl, hz t a z ht h hzz _⟩

theorem tr_newRow {e : TypeId} {c c' : Array Value} (h : VA κ c c') : TR P AR κ (newRow e c) (newRow e c') := by
  unfold Go.newRow newObj
  refine TR.new (.cells h) ?_
  rintro κ' r s hk ⟨bi, hb, rfl, hd⟩
  exact .pure ⟨bi, hb, by simp [hd], rfl⟩
theorem tr_newVar {t : TypeId} {v v' : Value} (h : V κ v v') : TR P AR κ (newVar t v) (newVar t v') := tr_newRow h.cells

theorem tr_load {a a' : Addr} (h : AR κ a a') {m : Mode} : TR P V κ (Go.load a m) (Go.load a' m) := .load h fun _ _ hv => .pure hv
theorem tr_store {a a' : Addr} {v v' : Value} (h : AR κ a a') (hv : V κ v v') {m : Mode} : TR P (fun _ _ _ => True) κ (Go.store a v m) (Go.store a' v' m) := .store h hv (.pure trivial)

theorem tr_loadCellsFrom {a a' : Addr} : ∀ (n i : Nat) {κ : K} (acc acc' : Array Value), AR κ a a' → VA κ acc acc' → TR P VA κ (loadCellsFrom a i n acc) (loadCellsFrom a' i n acc')
  | 0, i, κ, acc, acc', _, hacc => .pure hacc
  | n + 1, i, κ, acc, acc', ha, hacc => by
    unfold Go.loadCellsFrom
    refine TR.bind (tr_load (ha.add i)) ?_
    intro κ' v v' hk hv
    refine tr_loadCellsFrom n (i + 1) _ _ (ha.mono hk) ?_
    simp only [VA, Array.toList_push]
    exact (hacc.mono hk).append (.cons hv .nil)
theorem tr_loadCells {a a' : Addr} (h : AR κ a a') (n : Nat) : TR P VA κ (loadCells a n) (loadCells a' n) := tr_loadCellsFrom n 0 _ _ h .nil

theorem tr_storeCells {a a' : Addr} : ∀ {vs vs' : List Value} (i : Nat) {κ : K}, AR κ a a' → F2 (V κ) vs vs' → TR P (fun _ _ _ => True) κ (storeCells a vs i) (storeCells a' vs' i)
  | [], [], i, κ, _, _ => by unfold Go.storeCells; exact .pure trivial
  | [], _ :: _, i, κ, _, h => nomatch h
  | _ :: _, [], i, κ, _, h => nomatch h
  | v :: vs, v' :: vs', i, κ, ha, h => by
    cases h with
    | cons hv hr =>
      unfold Go.storeCells
      refine TR.bind (tr_store (ha.add i) hv) ?_
      intro κ' _ _ hk _
      exact tr_storeCells (i + 1) (ha.mono hk) (hr.mono fun _ _ h => h.mono hk)

theorem tr_part {t : TypeId} {cs cs' : Array Value} (h : VA κ cs cs') (off : Nat) : TR P V κ (part t cs off) (part t cs' off) := by
  unfold Go.part
  refine TR.bind tr_isAgg ?_
  rintro κ' b _ hk ⟨rfl, _⟩
  cases b with
  | true =>
    simp only [if_true]
    refine TR.bind tr_sizeOf ?_
    rintro κ'' n _ hk' ⟨rfl, _⟩
    refine .pure (.agg' ?_)
    simp only [VA, Array.toList_extract, List.extract_eq_take_drop]
    exact F2.mono ((F2.drop h _).take _) fun _ _ h => h.mono (K.le_trans hk hk')
  | false =>
    simp only [Bool.false_eq_true, if_false]
    cases hg : cs'[off]? with
    | none => exact tr_stuckR
    | some v' =>
      obtain ⟨v, hv, hr⟩ := F2.get h (i := off) (b := v') (by simpa using hg)
      have : cs[off]? = some v := by simpa using hv
      rw [this]
      exact .pure (hr.mono hk)

/-! ## Trees without memory -/
inductive NM (P : Program) (Q : α → Prop) : Sem α → Prop
  | pure {a : α} : Q a → NM P Q (.pure a)
  | program {k : Program → Sem α} : NM P Q (k P) → NM P Q (.program k)
  | choose {q : Question} {k : Nat → Sem α} : NM P Q (k 0) → NM P Q (.choose q k)
  | mark {m : Mark} {k : Sem α} : NM P Q k → NM P Q (.mark m k)
  | fails {t : Sem α} : (∀ σ, srun P t σ = none) → NM P Q t

theorem tr_of_NM {Q : α → Prop} {R : K → α → α → Prop} {t : Sem α} (h : NM P Q t) (hr : ∀ κ' a, Q a → R κ' a a) : TR P R κ t t := by
  induction h with
  | pure h => exact .pure (hr _ _ h)
  | program _ ih => exact .program ih
  | choose _ ih => exact .choose ih
  | mark _ ih => exact .mark ih
  | fails h => exact .fails h

theorem nm_bind {Q : α → Prop} {S : β → Prop} {t : Sem α} {f : α → Sem β} (h : NM P Q t) (hf : ∀ a, Q a → NM P S (f a)) : NM P S (t >>= f) := by
  show NM P S (t.bind f)
  induction h with
  | pure h => exact hf _ h
  | program _ ih => exact .program ih
  | choose _ ih => exact .choose ih
  | mark _ ih => exact .mark ih
  | fails h => exact .fails fun σ => by rw [srun_bind, h]

/-- A value without places. -/
def Plain (v : Value) : Prop := ∀ κ, V κ v v

theorem nm_stuck {Q : α → Prop} {s : String} : NM P Q (Go.stuck s) := .fails fun _ => rfl
theorem nm_unsupp {Q : α → Prop} {u : Unsupported} : NM P Q (Go.unsupported u) := .fails fun _ => rfl
theorem nm_panic {Q : α → Prop} {e : RuntimeError} : NM P Q (runtimePanic e) := .fails (fails_runtimePanic e)
theorem nm_prog : NM P (P = ·) Go.program := .program (.pure rfl)
theorem nm_underlying {t : TypeId} : NM P (fun d => P.underlying t = some d) (underlying t) := by
  unfold Go.underlying
  refine nm_bind nm_prog ?_
  rintro _ rfl
  cases h : P.underlying t with
  | none => exact nm_stuck
  | some i => exact .pure rfl
theorem nm_typeInfo {t : TypeId} : NM P (fun d => P.info? t = some d) (typeInfo t) := by
  unfold Go.typeInfo
  refine nm_bind nm_prog ?_
  rintro _ rfl
  cases h : P.info? t with
  | none => exact nm_stuck
  | some i => exact .pure rfl

theorem nm_intBits (op : BinOp) (k : IntKind) (x y : Int) : NM P Plain (Op.intBits op k x y) := by
  unfold Op.intBits
  cases op <;> first | exact nm_stuck | exact .pure fun κ => .int _ _
theorem nm_intArith (op : BinOp) (k : IntKind) (x y : Int) : NM P Plain (Op.intArith op k x y) := by
  unfold Op.intArith
  cases op <;> first | exact nm_stuck | exact .pure fun κ => .int _ _
theorem nm_intDiv (op : BinOp) (k : IntKind) (x y : Int) : NM P Plain (Op.intDiv op k x y) := by
  unfold Op.intDiv
  split
  · exact nm_panic
  · cases op <;> first | exact nm_stuck | exact .pure fun κ => .int _ _
theorem nm_intCmp (op : BinOp) (x y : Int) : NM P Plain (Op.intCmp op x y) := by
  unfold Op.intCmp
  cases op <;> first | exact nm_stuck | exact .pure fun κ => .bool _
theorem nm_shift (op : BinOp) (k k' : IntKind) (x y : Int) : NM P Plain (Op.shift op k x k' y) := by
  unfold Op.shift
  split
  · exact nm_panic
  · cases op <;> first | exact nm_stuck | exact .pure fun κ => .int _ _
theorem nm_stringOp (op : BinOp) (x y : ByteArray) : NM P Plain (Op.stringOp op x y) := by
  unfold Op.stringOp
  cases op <;> first
    | exact nm_stuck
    | exact .pure fun κ => .bool _
    | (dsimp only; split; exact nm_unsupp; exact .pure fun κ => .string _)
theorem nm_floatCmp (op : BinOp) (k : FloatKind) (a b : Nat) : NM P Plain (Op.floatCmp op k a b) := by
  unfold Op.floatCmp
  cases op <;> first | exact nm_stuck | exact .pure fun κ => .bool _

theorem nm_binInt (op : BinOp) (t : TypeId) (k k' : IntKind) (a b : Int) : NM P Plain (binOp op t (.int k a) (.int k' b)) := by
  unfold binOp
  cases op <;> first
    | exact nm_shift _ _ _ _ _
    | (dsimp only; split; exact nm_stuck; first | exact nm_intArith _ _ _ _ | exact nm_intDiv _ _ _ _ | exact nm_intBits _ _ _ _ | exact nm_intCmp _ _ _)
theorem nm_unary (op : UnOp) (v : Value) (h : match v with | .int _ _ | .bool _ | .float _ _ | .complex _ _ _ => True | _ => False) : NM P Plain (Op.unary op v) := by
  cases v <;> simp only at h <;> unfold Op.unary <;> cases op <;> first
    | exact nm_stuck
    | exact nm_intArith _ _ _ _
    | exact nm_intBits _ _ _ _
    | exact .pure fun κ => .float _ _
    | exact .pure fun κ => .complex _ _ _
    | exact .pure fun κ => .bool _
end
end Go.Sh

namespace Go.Sh
open Go

section
variable {P : Program} {κ : K} {w : World}

theorem r_info {t : TypeId} {i : TypeInfo} (h : P.info? t = some i) : (typeInfo t).run P w = .ok i w := by
  simp [typeInfo, program, Sem.run_bind, Sem.run, Result.andThen, h]
theorem r_under {t : TypeId} {d : TypeDesc} (h : P.underlying t = some d) : (underlying t).run P w = .ok d w := run_underlying h w
theorem r_size {t : TypeId} {i : TypeInfo} (h : P.info? t = some i) : (sizeOf t).run P w = .ok i.size w := by
  simp [sizeOf, r_info h, Result.andThen]
theorem r_zero {t : TypeId} {i : TypeInfo} {z : Value} (h : P.info? t = some i) (hz : i.zero = some z) : (zeroValue t).run P w = .ok z w := by
  simp [zeroValue, Sem.run_bind, r_info h, Result.andThen, hz]
theorem r_agg {t : TypeId} {b : Bool} (h : aggB P t = some b) : (isAgg t).run P w = .ok b w := by
  unfold aggB at h
  cases hu : P.underlying t with
  | none => rw [hu] at h; simp at h
  | some d =>
    rw [hu] at h
    simp only [isAgg, Sem.run_bind, r_under hu, Result.andThen]
    cases d <;> simp_all

theorem va_get {cs cs' : List Value} (h : F2 (V κ) cs cs') {i : Nat} {v' : Value} (hv : cs'[i]? = some v') : ∃ v, cs[i]? = some v ∧ V κ v v' := F2.get h hv

theorem r_part {t : TypeId} {cs : Array Value} {cs' : List Value} (h : F2 (V κ) cs.toList cs') {off : Nat} {v' : Value} (hs : spart P t cs' off = some v') : ∃ v, (part t cs off).run P w = .ok v w ∧ V κ v v' := by
  unfold spart at hs
  cases ha : aggB P t with
  | none => rw [ha] at hs; simp at hs
  | some b =>
    rw [ha] at hs
    cases b with
    | true =>
      cases hi : P.info? t with
      | none => rw [hi] at hs; simp at hs
      | some i =>
        rw [hi] at hs
        simp only [Option.some.injEq] at hs
        subst hs
        refine ⟨.agg (cs.extract off (off + i.size)), ?_, .agg' ?_⟩
        · simp [part, Sem.run_bind, r_agg ha, r_size hi, Result.andThen]
        · simp only [VA, Array.toList_extract, List.extract_eq_take_drop]
          have : off + i.size - off = i.size := by omega
          rw [this]
          exact (h.drop _).take _
    | false =>
      simp only at hs
      obtain ⟨v, hv, hr⟩ := va_get h hs
      have : cs[off]? = some v := by simpa using hv
      exact ⟨v, by simp [part, Sem.run_bind, r_agg ha, Result.andThen, this], hr⟩

theorem kbeq_eq {k k' : IntKind} (h : kbeq k k' = true) : k = k' := by cases k <;> cases k' <;> first | rfl | (simp [kbeq] at h)
theorem ibeq_eq (a b : Int) : ibeq a b = (a == b) := by
  cases a <;> cases b <;> simp only [ibeq] <;> rw [Bool.eq_iff_iff] <;> simp [Nat.beq_eq] <;> omega
theorem iblt_eq (a b : Int) : iblt a b = decide (a < b) := by
  cases a <;> cases b <;> simp only [iblt] <;> rw [Bool.eq_iff_iff] <;> simp [Nat.blt_eq] <;> omega
theorem beqBytes_eq : ∀ (a b : List UInt8), beqBytes a b = (a == b)
  | [], [] => rfl
  | [], _ :: _ => rfl
  | _ :: _, [] => rfl
  | a :: x, b :: y => by
    simp only [beqBytes]
    cases h : Nat.beq a.toNat b.toNat with
    | true =>
      have : a = b := UInt8.toNat_inj.1 (Nat.eq_of_beq_eq_true h)
      subst this
      simp [beqBytes_eq x y]
    | false =>
      have : a ≠ b := fun e => by subst e; simp at h
      simp [this]
theorem lssBytes_eq : ∀ (a b : List UInt8), lssBytes a b = Op.bytesLess a b
  | [], [] => rfl
  | [], _ :: _ => rfl
  | _ :: _, [] => rfl
  | a :: x, b :: y => by
    simp only [lssBytes, Op.bytesLess]
    cases h : Nat.blt a.toNat b.toNat with
    | true =>
      have : a < b := by simpa [UInt8.lt_iff_toNat_lt, Nat.blt_eq] using h
      simp [this]
    | false =>
      have h1 : ¬ a < b := by
        intro h2
        have : a.toNat < b.toNat := UInt8.lt_iff_toNat_lt.1 h2
        rw [← Nat.blt_eq] at this
        rw [this] at h; cases h
      cases h2 : Nat.beq a.toNat b.toNat with
      | true =>
        have : a = b := UInt8.toNat_inj.1 (Nat.eq_of_beq_eq_true h2)
        subst this
        simp [lssBytes_eq x y]
      | false =>
        have : a ≠ b := fun e => by subst e; simp at h2
        simp [h1, this]
theorem ba_beq (a b : ByteArray) : (a == b) = (a.data.toList == b.data.toList) := by
  obtain ⟨⟨a⟩⟩ := a
  obtain ⟨⟨b⟩⟩ := b
  rw [Bool.eq_iff_iff]
  simp only [beq_iff_eq]
  constructor
  · intro h
    have h' : ((⟨a⟩ : Array UInt8) == ⟨b⟩) = true := h
    simpa using h'
  · intro h
    subst h
    show ((⟨a⟩ : Array UInt8) == ⟨a⟩) = true
    simp

abbrev LF := Option Bool × Unit

theorem r_fields {q : TypeId → Value → Value → Option Bool} {rq : TypeId → Value → Value → Sem Bool} {xs ys : Array Value} {xs' ys' : List Value}
    (hq : ∀ t x y x' y' b, V κ x x' → V κ y y' → q t x' y' = some b → (rq t x y).run P w = .ok b w)
    (hx : F2 (V κ) xs.toList xs') (hy : F2 (V κ) ys.toList ys') : ∀ (fields : List Field) (b : Bool), seqFields q P xs' ys' fields = some b →
    (forIn fields ((none, ()) : LF) fun (f : Field) __s =>
      if f.name ≠ "_" then do
        let __do_lift ← part f.type xs f.offset
        let __do_lift_1 ← part f.type ys f.offset
        let __do_lift ← rq f.type __do_lift __do_lift_1
        if (!__do_lift) = true then pure (ForInStep.done (some false, ()))
          else pure (ForInStep.yield (none, ()))
      else pure (ForInStep.yield (none, ()))).run P w = .ok (if b then none else some false, ()) w
  | [], b, h => by
    simp only [seqFields, Option.some.injEq] at h
    subst h
    simp
  | f :: r, b, h => by
    rw [List.forIn_cons]
    unfold seqFields at h
    by_cases hn : f.name = "_"
    · simp only [hn, decide_true] at h
      simp only [hn, ne_eq, not_true_eq_false, if_false]
      rw [Sem.run_bind]
      simp only [Sem.run_pure, Result.andThen]
      exact r_fields hq hx hy r b h
    · simp only [hn, decide_false] at h
      simp only [hn, ne_eq, not_false_eq_true, if_true]
      cases h1 : spart P f.type xs' f.offset with
      | none => rw [h1] at h; simp at h
      | some x' =>
        cases h2 : spart P f.type ys' f.offset with
        | none => rw [h1, h2] at h; simp at h
        | some y' =>
          rw [h1, h2] at h
          obtain ⟨x, rx, vx⟩ := r_part (w := w) hx h1
          obtain ⟨y, ry, vy⟩ := r_part (w := w) hy h2
          cases h3 : q f.type x' y' with
          | none => simp only [h3] at h; simp at h
          | some c =>
            simp only [h3] at h
            have rqq := hq f.type x y x' y' c vx vy h3
            simp only [Sem.run_bind, rx, ry, rqq, Result.andThen]
            cases c with
            | true =>
              simp only [Bool.not_true, Bool.false_eq_true, if_false, Sem.run_pure]
              exact r_fields hq hx hy r b h
            | false =>
              simp only [Option.some.injEq] at h
              subst h
              simp

theorem r_elems {e : TypeId} {n : Nat} {q : Value → Value → Option Bool} {rq : Value → Value → Sem Bool} {xs ys : Array Value} {xs' ys' : List Value}
    (hq : ∀ x y x' y' b, V κ x x' → V κ y y' → q x' y' = some b → (rq x y).run P w = .ok b w)
    (hx : F2 (V κ) xs.toList xs') (hy : F2 (V κ) ys.toList ys') : ∀ (is : List Nat) (b : Bool), seqElems q P e n xs' ys' is = some b →
    (forIn is ((none, ()) : LF) fun i __s => do
      let __do_lift ← part e xs (i * n)
      let __do_lift_1 ← part e ys (i * n)
      let __do_lift ← rq __do_lift __do_lift_1
      if (!__do_lift) = true then pure (ForInStep.done (some false, ())) else pure (ForInStep.yield (none, ()))).run P w = .ok (if b then none else some false, ()) w
  | [], b, h => by
    simp only [seqElems, Option.some.injEq] at h
    subst h
    simp
  | i :: r, b, h => by
    rw [List.forIn_cons]
    unfold seqElems at h
    cases h1 : spart P e xs' (i * n) with
    | none => rw [h1] at h; simp at h
    | some x' =>
      cases h2 : spart P e ys' (i * n) with
      | none => rw [h1, h2] at h; simp at h
      | some y' =>
        rw [h1, h2] at h
        obtain ⟨x, rx, vx⟩ := r_part (w := w) hx h1
        obtain ⟨y, ry, vy⟩ := r_part (w := w) hy h2
        cases h3 : q x' y' with
        | none => simp only [h3] at h; simp at h
        | some c =>
          simp only [h3] at h
          have rqq := hq x y x' y' c vx vy h3
          simp only [Sem.run_bind, rx, ry, rqq, Result.andThen]
          cases c with
          | true =>
            simp only [Bool.not_true, Bool.false_eq_true, if_false, Sem.run_pure]
            exact r_elems hq hx hy r b h
          | false =>
            simp only [Option.some.injEq] at h
            subst h
            simp

theorem r_seqv : ∀ (d d' : Nat) (t : TypeId) (x y x' y' : Value) (b : Bool), d ≤ d' → V κ x x' → V κ y y' → seqv P d t x' y' = some b → (Op.equalIn d' t x y).run P w = .ok b w
  | 0, _, _, _, _, _, _, _, _, _, _, h => by simp [seqv] at h
  | d + 1, 0, _, _, _, _, _, _, hd, _, _, _ => by omega
  | d + 1, d' + 1, t, x, y, x', y', b, hd, hx, hy, h => by
    unfold seqv at h
    unfold Op.equalIn
    cases hu : P.underlying t with
    | none => rw [hu] at h; simp at h
    | some desc =>
      rw [hu] at h
      simp only [Sem.run_bind, r_under hu, Result.andThen]
      cases desc with
      | bool => cases hx <;> first | (simp at h; done) | (cases hy <;> first | (simp at h; done) | (simp only [Option.some.injEq] at h; subst h; rfl))
      | int k => cases hx <;> first
          | (simp at h; done)
          | (cases hy <;> first
            | (simp at h; done)
            | (rename_i k1 a k2 b1
               simp only at h
               cases hk : kbeq k1 k2 with
               | false => rw [hk] at h; simp at h
               | true =>
                 rw [hk] at h
                 obtain rfl := kbeq_eq hk
                 simp only [Option.some.injEq] at h
                 subst h
                 simp [ibeq_eq]))
      | string => cases hx <;> first
          | (simp at h; done)
          | (cases hy <;> first
            | (simp at h; done)
            | (simp only [Option.some.injEq] at h
               subst h
               rw [beqBytes_eq, ← ba_beq]
               rfl))
      | pointer e => cases hx <;> first
          | (simp at h; done)
          | (cases hy <;> first
            | (simp at h; done)
            | (simp only [Option.some.injEq] at h; subst h; rfl)
            | (rename_i s1 o1 b1 k1 s2 o2 b2 k2
               simp only at h
               cases hi : P.info? e with
               | none => rw [hi] at h; simp at h
               | some i =>
                 rw [hi] at h
                 cases hb : Nat.beq s1 s2 with
                 | false => rw [hb] at h; simp at h
                 | true =>
                   rw [hb] at h
                   obtain rfl := Nat.eq_of_beq_eq_true hb
                   rw [k1] at k2
                   cases k2
                   simp only at h
                   cases hsz : i.size with
                   | zero => rw [hsz] at h; simp at h
                   | succ n =>
                     rw [hsz] at h
                     simp only [Option.some.injEq] at h
                     subst h
                     simp only [Sem.run_bind, r_size hi, Result.andThen, hsz, sameAddr]
                     simp only [ne_eq, Nat.add_one_ne_zero, not_false_eq_true, if_true, beq_self_eq_true]
                     simp only [Sem.run_pure, Result.ok.injEq, and_true]
                     rw [Bool.eq_iff_iff]
                     simp only [beq_iff_eq, Addr.mk.injEq, true_and, and_true]
                     rw [Nat.beq_eq]
                     omega))
      | interface ms => cases hx <;> first
          | (simp at h; done)
          | (cases hy <;> first
            | (simp at h; done)
            | (simp only [Option.some.injEq] at h; subst h; rfl)
            | (rename_i tx vx vx' hvx ty vy vy' hvy
               simp only at h
               cases hb : Nat.beq tx ty with
               | false =>
                 rw [hb] at h
                 simp only [Option.some.injEq] at h
                 subst h
                 have : tx ≠ ty := Nat.ne_of_beq_eq_false hb
                 simp [this]
               | true =>
                 rw [hb] at h
                 obtain rfl := Nat.eq_of_beq_eq_true hb
                 cases hi : P.info? tx with
                 | none => rw [hi] at h; simp at h
                 | some i =>
                   rw [hi] at h
                   simp only at h
                   cases hc : i.comparable with
                   | false => rw [hc] at h; simp at h
                   | true =>
                     rw [hc] at h
                     simp only [ne_eq, not_true_eq_false, if_false, Sem.run_bind, r_info hi, Result.andThen, hc, Bool.not_true, Bool.false_eq_true]
                     exact r_seqv d d' tx vx vy vx' vy' b (by omega) hvx hvy h))
      | struct fields => cases hx <;> first
          | (simp at h; done)
          | (cases hy <;> first
            | (simp at h; done)
            | (rename_i a a' hs1 hp1 c c' hs2 hp2
               simp only at h
               cases hst : P.stoodInHeld t with
               | true => rw [hst] at h; simp at h
               | false =>
                 rw [hst] at h
                 simp only at h
                 simp only [Sem.run_bind, program, Sem.run, Result.andThen, hst, Bool.false_eq_true, if_false]
                 have := r_fields (w := w) (rq := Op.equalIn d') (fun t x y x' y' b vx vy hq => r_seqv d d' t x y x' y' b (by omega) vx vy hq) (VA.of_points hs1 hp1) (VA.of_points hs2 hp2) fields.toList b h
                 rw [← Array.forIn_toList]
                 rw [this]
                 cases b <;> simp))
      | array len e => cases hx <;> first
          | (simp at h; done)
          | (cases hy <;> first
            | (simp at h; done)
            | (rename_i a a' hs1 hp1 c c' hs2 hp2
               simp only at h
               cases hi : P.info? e with
               | none => rw [hi] at h; simp at h
               | some i =>
                 rw [hi] at h
                 simp only at h
                 simp only [Sem.run_bind, r_size hi, Result.andThen]
                 have := r_elems (w := w) (rq := Op.equalIn d' e) (fun x y x' y' b vx vy hq => r_seqv d d' e x y x' y' b (by omega) vx vy hq) (VA.of_points hs1 hp1) (VA.of_points hs2 hp2) (List.range' 0 len) b h
                 rw [Std.Legacy.Range.forIn_eq_forIn_range']
                 simp only [Std.Legacy.Range.size, Nat.sub_zero, Nat.add_sub_cancel, Nat.div_one]
                 rw [this]
                 cases b <;> simp))
      | slice e => cases hx <;> first
          | (simp at h; done)
          | (cases hy <;> first
            | (simp at h; done)
            | (simp only [Option.some.injEq] at h; subst h; rfl))
      | map a c => cases hx <;> first
          | (simp at h; done)
          | (cases hy <;> first
            | (simp at h; done)
            | (simp only [Option.some.injEq] at h; subst h; rfl))
      | func a c e => cases hx <;> first
          | (simp at h; done)
          | (cases hy <;> first
            | (simp at h; done)
            | (simp only [Option.some.injEq] at h; subst h; rfl))
      | _ => simp at h
end
end Go.Sh

namespace Go.Sh
open Go

section
variable {E : Env} {κ : K} {w : World}

theorem r_fieldAddr {s : TypeId} {x x' v' : Value} {f : Nat} (hx : V κ x x') (h : sfieldAddr E s x' f = some v') : ∃ v, (Instr.fieldAt s x f).run E.P w = .ok v w ∧ V κ v v' := by
  unfold sfieldAddr at h
  cases hu : E.P.underlying s with
  | none => rw [hu] at h; simp at h
  | some d =>
    rw [hu] at h
    cases d with
    | struct fields =>
      cases hx <;> first | (simp at h; done) | skip
      rename_i s1 off bi hk
      simp only at h
      cases hf : fields.toList[f]? with
      | none => rw [hf] at h; simp at h
      | some fl =>
        rw [hf] at h
        simp only at h
        cases hi : E.P.info? fl.type with
        | none => rw [hi] at h; simp at h
        | some i =>
          rw [hi] at h
          simp only at h
          cases hz : i.size with
          | zero => rw [hz] at h; simp at h
          | succ n =>
            rw [hz] at h
            simp only [Option.some.injEq] at h
            subst h
            have hf' : fields[f]? = some fl := by simpa using hf
            have har : AR κ ⟨bi.r, off + bi.d, none⟩ ⟨s1, off, none⟩ := ⟨bi, hk, rfl, rfl⟩
            refine ⟨_, ?_, (har.add fl.offset).ptr⟩
            simp [Instr.fieldAt, Instr.sureAddr, fieldPlace, Sem.run_bind, r_under hu, Result.andThen, hf', r_size hi, hz]
    | _ => simp at h

theorem r_indexAddr {t : TypeId} {x x' i i' v' : Value} (hx : V κ x x') (hi : V κ i i') (h : sindexAddr E t x' i' = some v') : ∃ v, (Instr.indexAt t x i).run E.P w = .ok v w ∧ V κ v v' := by
  unfold sindexAddr at h
  cases hi <;> first | (simp at h; done) | skip
  rename_i k n
  cases n with
  | negSucc n => simp at h
  | ofNat n =>
    simp only at h
    cases hu : E.P.underlying t with
    | none => rw [hu] at h; simp at h
    | some d =>
      rw [hu] at h
      cases d with
      | slice elem =>
        cases hx <;> first | (simp at h; done) | (simp [Nat.blt] at h; done) | skip
        · rename_i s1 off len cap e bi hk hle hb
          simp only at h
          cases hlt : Nat.blt n len with
          | false => rw [hlt] at h; simp at h
          | true =>
            rw [hlt] at h
            have hlt' : n < len := by simpa [Nat.blt_eq] using hlt
            cases hinf : E.P.info? elem with
            | none => rw [hinf] at h; simp at h
            | some inf =>
              rw [hinf] at h
              simp only [Option.some.injEq] at h
              subst h
              have har : AR κ ⟨bi.r, off + bi.d, none⟩ ⟨s1, off, none⟩ := ⟨bi, hk, rfl, rfl⟩
              refine ⟨_, ?_, (har.add (n * inf.size)).ptr⟩
              have h1 : (0 : Int) ≤ Int.ofNat n ∧ Int.ofNat n < (len : Int) := ⟨by simp, by simp; omega⟩
              simp only [Instr.indexAt, asIntOf, Sem.run_bind, Sem.run_pure, Result.andThen, r_under hu]
              rw [if_pos h1]
              simp [r_size hinf, Result.andThen]
      | array len elem =>
        cases hx <;> first | (simp at h; done) | skip
        rename_i s1 off bi hk
        simp only at h
        cases hlt : Nat.blt n len with
        | false => rw [hlt] at h; simp at h
        | true =>
          rw [hlt] at h
          have hlt' : n < len := by simpa [Nat.blt_eq] using hlt
          cases hinf : E.P.info? elem with
          | none => rw [hinf] at h; simp at h
          | some inf =>
            rw [hinf] at h
            simp only [Option.some.injEq] at h
            subst h
            have har : AR κ ⟨bi.r, off + bi.d, none⟩ ⟨s1, off, none⟩ := ⟨bi, hk, rfl, rfl⟩
            refine ⟨_, ?_, (har.add (n * inf.size)).ptr⟩
            have h1 : (0 : Int) ≤ Int.ofNat n ∧ Int.ofNat n < (len : Int) := ⟨by simp, by simp; omega⟩
            simp only [Instr.indexAt, asIntOf, Sem.run_bind, Sem.run_pure, Result.andThen, r_under hu, Instr.sureAddr]
            rw [if_pos h1]
            simp [r_size hinf, Result.andThen]
      | _ => simp at h

theorem r_index {t : TypeId} {x x' i i' v' : Value} (hx : V κ x x') (hi : V κ i i') (h : sindex E t x' i' = some v') : ∃ v, (Instr.index t x i).run E.P w = .ok v w ∧ V κ v v' := by
  unfold sindex at h
  cases hi <;> first | (simp at h; done) | skip
  rename_i k n
  cases n with
  | negSucc n => simp at h
  | ofNat n =>
    simp only at h
    cases hu : E.P.underlying t with
    | none => rw [hu] at h; simp at h
    | some d =>
      rw [hu] at h
      cases d with
      | string =>
        cases hx <;> first | (simp at h; done) | skip
        rename_i s
        simp only at h
        cases hg : s.data.toList[n]? with
        | none => rw [hg] at h; simp at h
        | some b =>
          rw [hg] at h
          simp only [Option.some.injEq] at h
          subst h
          refine ⟨_, ?_, .int _ _⟩
          have hlt : n < s.data.size := by
            rcases Nat.lt_or_ge n s.data.toList.length with h | h
            · simpa using h
            · rw [List.getElem?_eq_none h] at hg; cases hg
          have hs : s[n]? = some b := by
            have h2 : n < s.size := hlt
            rw [getElem?_pos s n h2]
            have h3 : s.data.toList[n]? = some s[n] := by
              rw [List.getElem?_eq_getElem (by simpa using hlt)]
              rfl
            rw [h3] at hg
            exact hg
          simp [Instr.index, asIntOf, Sem.run_bind, Result.andThen, r_under hu, hs]
      | array len elem =>
        cases hx <;> first | (simp at h; done) | skip
        rename_i a a' hsz hp
        simp only at h
        cases hlt : Nat.blt n len with
        | false => rw [hlt] at h; simp at h
        | true =>
          rw [hlt] at h
          have hlt' : n < len := by simpa [Nat.blt_eq] using hlt
          cases hinf : E.P.info? elem with
          | none => rw [hinf] at h; simp at h
          | some inf =>
            rw [hinf] at h
            simp only at h
            obtain ⟨v, hv, hr⟩ := r_part (w := w) (VA.of_points hsz hp) h
            refine ⟨v, ?_, hr⟩
            have h1 : (0 : Int) ≤ Int.ofNat n ∧ Int.ofNat n < (len : Int) := ⟨by simp, by simp; omega⟩
            simp only [Instr.index, asIntOf, Sem.run_bind, Sem.run_pure, Result.andThen, r_under hu]
            rw [if_pos h1]
            simp only [Sem.run_bind, r_size hinf, Result.andThen]
            exact hv
      | _ => simp at h

theorem r_field {t : TypeId} {x x' v' : Value} {f : Nat} (hx : V κ x x') (h : sfield E t x' f = some v') : ∃ v, (Instr.field t x f).run E.P w = .ok v w ∧ V κ v v' := by
  unfold sfield at h
  cases hu : E.P.underlying t with
  | none => rw [hu] at h; simp at h
  | some d =>
    rw [hu] at h
    cases d with
    | struct fields =>
      cases hx <;> first | (simp at h; done) | skip
      rename_i a a' hsz hp
      simp only at h
      cases hf : fields.toList[f]? with
      | none => rw [hf] at h; simp at h
      | some fl =>
        rw [hf] at h
        simp only at h
        have hf' : fields[f]? = some fl := by simpa using hf
        obtain ⟨v, hv, hr⟩ := r_part (w := w) (VA.of_points hsz hp) h
        refine ⟨v, ?_, hr⟩
        simp only [Instr.field, Sem.run_bind, Sem.run_pure, Result.andThen, r_under hu, hf', asAgg]
        exact hv
    | _ => simp at h

theorem swrap_eq (k : IntKind) (n : Int) : swrap k n = k.wrap n := by
  cases n with
  | negSucc n => rfl
  | ofNat n =>
    simp only [swrap]
    cases h : Nat.blt n (half k) with
    | false => rfl
    | true =>
      have h' : n < half k := by simpa [Nat.blt_eq] using h
      simp only [cond_true]
      have : (Int.ofNat n : Int) = (n : Int) := rfl
      cases k <;> simp only [half] at h' <;> simp [IntKind.wrap, IntKind.bits, IntKind.signed] <;> omega

theorem r_sint {op : BinOp} {k : IntKind} {a b : Int} {t : TypeId} {v' : Value} (h : sint op k a b = some v') : (binOp op t (.int k a) (.int k b)).run E.P w = .ok v' w ∧ Plain v' := by
  unfold sint at h
  cases op <;> first
    | (simp at h; done)
    | (simp only [Option.some.injEq] at h
       subst h
       refine ⟨?_, fun κ => by constructor⟩
       first
         | (simp [binOp, Op.intArith, swrap_eq]; done)
         | (simp [binOp, Op.intCmp, ibeq_eq, iblt_eq]; done)
         | (simp only [binOp, Op.intCmp, iblt_eq, ne_eq, not_true_eq_false, if_false, Sem.run_pure, Result.ok.injEq, Value.bool.injEq, and_true]
            rw [Bool.eq_iff_iff]; simp; done)
         | (simp only [binOp, Op.intCmp, ibeq_eq, ne_eq, not_true_eq_false, if_false, Sem.run_pure, bne]))

theorem toList_data (s : ByteArray) : s.toList = s.data.toList := ByteArray.toList_eq s

theorem lss_total : ∀ (a b : List UInt8), Op.bytesLess b a = !(Op.bytesLess a b || a == b)
  | [], [] => rfl
  | [], _ :: _ => rfl
  | _ :: _, [] => rfl
  | a :: x, b :: y => by
    simp only [Op.bytesLess]
    have ih := lss_total x y
    have tri : a < b ∨ a = b ∨ b < a := by
      rcases Nat.lt_trichotomy a.toNat b.toNat with h | h | h
      · exact .inl (UInt8.lt_iff_toNat_lt.2 h)
      · exact .inr (.inl (UInt8.toNat_inj.1 h))
      · exact .inr (.inr (UInt8.lt_iff_toNat_lt.2 h))
    rcases tri with h | h | h
    · have h1 : ¬ b < a := fun h2 => absurd (UInt8.lt_trans h h2) (UInt8.lt_irrefl _)
      have h2 : a ≠ b := fun e => by subst e; exact absurd h (UInt8.lt_irrefl _)
      simp [h, h1, Ne.symm h2]
    · subst h
      have h1 : ¬ a < a := UInt8.lt_irrefl _
      simp [h1, ih]
    · have h1 : ¬ a < b := fun h2 => absurd (UInt8.lt_trans h h2) (UInt8.lt_irrefl _)
      have h2 : a ≠ b := fun e => by subst e; exact absurd h (UInt8.lt_irrefl _)
      simp [h, h1, h2]

theorem ba_append (x y : ByteArray) : x ++ y = ⟨⟨x.data.toList ++ y.data.toList⟩⟩ := by
  obtain ⟨⟨x⟩⟩ := x
  obtain ⟨⟨y⟩⟩ := y
  apply ByteArray.ext
  simp

theorem r_sstring {op : BinOp} {a b : ByteArray} {t : TypeId} {v' : Value} (h : sstring op a b = some v') : (binOp op t (.string a) (.string b)).run E.P w = .ok v' w ∧ Plain v' := by
  unfold sstring at h
  have ha : a.size = a.data.toList.length := by simp
  have hb : b.size = b.data.toList.length := by simp
  cases op <;> first
    | (simp at h; done)
    | (simp only [Option.some.injEq] at h
       subst h
       refine ⟨?_, fun κ => by constructor⟩
       simp only [binOp, Op.stringOp, toList_data, Sem.run_pure, Result.ok.injEq, Value.bool.injEq, and_true]
       first
         | (rw [beqBytes_eq]; done)
         | (rw [lssBytes_eq]; done)
         | (rw [lssBytes_eq, lss_total a.data.toList b.data.toList]; simp; done)
         | (rw [lssBytes_eq, lss_total a.data.toList b.data.toList]))
    | (cases hle : Nat.ble (a.data.toList.length + b.data.toList.length) big with
       | false => rw [hle] at h; simp at h
       | true =>
         rw [hle] at h
         simp only [cond_true, Option.some.injEq] at h
         subst h
         refine ⟨?_, fun κ => by constructor⟩
         have h1 : a.data.toList.length + b.data.toList.length ≤ big := Nat.le_of_ble_eq_true hle
         have h2 : ¬ (((a.size + b.size : Nat) : Int) > IntKind.i64.max) := by
           rw [ha, hb]
           have : IntKind.i64.max = 9223372036854775807 := by simp [IntKind.max, IntKind.signed, IntKind.bits]
           rw [this]
           have : big = 70368744177664 := by simp [big]
           omega
         simp only [binOp, Op.stringOp]
         rw [if_neg h2]
         simp only [Sem.run_pure, ba_append])
end
end Go.Sh

namespace Go.Sh
open Go

/-- What one operation comes to. -/
def SimV (P : Program) (κ : K) (σ : SW) (w : World) (t : Sem Value) (v' : Value) (σ' : SW) : Prop :=
  ∃ v w' κ', t.run P w = .ok v w' ∧ V κ' v v' ∧ Rel κ' σ' w' ∧ Post κ κ' σ σ' w w'

theorem SimV.still {P : Program} {κ : K} {σ : SW} {w : World} {t : Sem Value} {v' : Value} (hR : Rel κ σ w) (h : ∃ v, t.run P w = .ok v w ∧ V κ v v') : SimV P κ σ w t v' σ := by
  obtain ⟨v, h1, h2⟩ := h
  exact ⟨v, w, κ, h1, h2, hR, Post.refl _ _ _⟩

theorem SimV.of_TR {P : Program} {κ : K} {σ σ' : SW} {w : World} {t t' : Sem Value} {v' : Value} (hR : Rel κ σ w) (h : TR P V κ t t') (hs : srun P t' σ = some (v', σ')) : SimV P κ σ w t v' σ' := by
  obtain ⟨v, w', κ', h1, h2, h3, h4⟩ := h.run σ w v' σ' hR hs
  exact ⟨v, w', κ', h1, h2, h3, h4⟩

theorem Post.to_heap {κ κ' : K} {σ σ' : SW} {w w2 w3 : World} (hh : w3.heap = w2.heap) (ho : w3.os = w2.os) (ht : w3.tape = w2.tape) (hu : w3.output = w2.output) (hp : Post κ κ' σ σ' w w2) : Post κ κ' σ σ' w w3 :=
  { hp with
    size := by rw [hh]; exact hp.size
    os := ho.trans hp.os
    tape := ht.trans hp.tape
    output := hu.trans hp.output
    keep := fun r hr hall => by rw [hh]; exact hp.keep r hr hall }

/-- t makes one new object; its shadow is 'so', laid at block b. -/
def NewV (P : Program) (κ : K) (w : World) (t : Sem Value) (b : Nat) (v' : Value) (so : SObj) : Prop :=
  ∃ v w1 R n, t.run P w = .ok v w1 ∧ w1.heap = (w.alloc R).heap ∧ w1.os = w.os ∧ w1.tape = w.tape ∧ w1.output = w.output ∧
    ∀ κ2, K.le κ κ2 → κ2 b = some ⟨w.heap.size, 0, n⟩ → V κ2 v v' ∧ OR κ2 ⟨w.heap.size, 0, n⟩ so (some R)

theorem SimV.of_new {P : Program} {κ : K} {σ : SW} {w : World} {t : Sem Value} {v' : Value} {so : SObj} (hR : Rel κ σ w) (h : NewV P κ w t σ.n v' so) : SimV P κ σ w t v' (σ.push so) := by
  obtain ⟨v, w1, R, n, h1, h2, h3, h4, h5, h6⟩ := h
  obtain ⟨hv, ho⟩ := h6 (κ.add σ.n ⟨w.heap.size, 0, n⟩) (K.le_add hR.fresh) (K.add_same _ _ _)
  obtain ⟨hR', hP'⟩ := hR.new so R ⟨w.heap.size, 0, n⟩ rfl ho
  exact ⟨v, w1, _, h1, hv, hR'.of_heap h2, Post.to_heap h2 h3 h4 h5 hP'⟩

section
variable {P : Program} {E : Env} {κ : K} {σ : SW} {w : World}

theorem cell_add {r o : Nat} {cr : Array Value} {e : TypeId} {fr : Nat × Nat} (h : w.heap[r]? = some (.cells cr e fr)) (j : Nat) : w.cell? ((⟨r, o, none⟩ : Addr).add j) = cr[o + j]? := by
  unfold Addr.add
  by_cases hj : j = 0
  · subst hj; simp [World.cell?, h]
  · simp [World.cell?, h, hj]

theorem loadList_rel (hR : Rel κ σ w) {a a' : Addr} (ha : AR κ a a') {n : Nat} {l' : List Value} (h : loadList σ a' n = some l') :
    ∃ l, F2 (V κ) l l' ∧ l.length = n ∧ ∀ (j : Nat) (v : Value), l[j]? = some v → w.cell? (a.add j) = some v := by
  obtain ⟨bi, hk, rfl, hs⟩ := ha
  unfold loadList at h
  rw [hs] at h
  cases hg : σ.get a'.block with
  | none => rw [hg] at h; simp at h
  | some o =>
    rw [hg] at h
    cases o with
    | cells c e x f ver =>
      simp only at h
      cases hle : Nat.ble (a'.off + n) c.length with
      | false => rw [hle] at h; simp at h
      | true =>
        rw [hle] at h
        simp only [cond_true, Option.some.injEq] at h
        subst h
        have hle' : a'.off + n ≤ c.length := Nat.le_of_ble_eq_true hle
        obtain ⟨cr, fr, h1, h2, h3, h4, h5, h6⟩ := hR.cont _ _ _ hk hg
        have hf := (h4.drop a'.off).take n
        refine ⟨_, hf, ?_, ?_⟩
        · simp only [List.length_take, List.length_drop, Array.length_toList]; omega
        · intro j v hj
          rw [cell_add h1]
          have hjn : j < n := by
            rcases Nat.lt_or_ge j n with h | h
            · exact h
            · rw [List.getElem?_take_eq_none h] at hj; cases hj
          rw [List.getElem?_take_of_lt hjn, List.getElem?_drop, List.getElem?_take_of_lt (by omega), List.getElem?_drop] at hj
          have e1 : a'.off + bi.d + j = bi.d + (a'.off + j) := by omega
          rw [e1]
          simpa using hj
    | _ => simp at h

theorem r_loadAt (hR : Rel κ σ w) {t : TypeId} {x x' v' : Value} {σ' : SW} (hx : V κ x x') (h : sload E t x' σ = some (v', σ')) : σ' = σ ∧ ∃ v, (Instr.loadAt t x).run E.P w = .ok v w ∧ V κ v v' := by
  unfold sload at h
  cases hx <;> first | (simp at h; done) | skip
  rename_i s off bi hk
  simp only at h
  have har : AR κ ⟨bi.r, off + bi.d, none⟩ ⟨s, off, none⟩ := ⟨bi, hk, rfl, rfl⟩
  cases ha : aggB E.P t with
  | none => rw [ha] at h; simp at h
  | some b =>
    rw [ha] at h
    cases b with
    | true =>
      cases hi : E.P.info? t with
      | none => rw [hi] at h; simp at h
      | some i =>
        rw [hi] at h
        simp only at h
        cases hl : loadList σ ⟨s, off, none⟩ i.size with
        | none => rw [hl] at h; simp at h
        | some l' =>
          rw [hl] at h
          simp only [Option.some.injEq, Prod.mk.injEq] at h
          obtain ⟨rfl, rfl⟩ := h
          obtain ⟨l, hf, hlen, hc⟩ := loadList_rel hR har hl
          refine ⟨rfl, .agg ⟨l⟩, ?_, .agg' hf⟩
          have := run_loadCells_list (P := E.P) (w := w) ⟨bi.r, off + bi.d, none⟩ l hc
          rw [hlen] at this
          simp only [Instr.loadAt, Instr.sureAddr, loadVar, Sem.run_bind, Sem.run_pure, Result.andThen, r_agg ha, r_size hi, this, if_true]
    | false =>
      simp only at h
      cases hc : σ.cell ⟨s, off, none⟩ with
      | none => rw [hc] at h; simp at h
      | some v1 =>
        rw [hc] at h
        simp only [Option.some.injEq, Prod.mk.injEq] at h
        obtain ⟨rfl, rfl⟩ := h
        obtain ⟨v, hv, hr⟩ := hR.cell har hc
        refine ⟨rfl, v, ?_, hr⟩
        simp only [Instr.loadAt, Instr.sureAddr, loadVar, Sem.run_bind, Sem.run_pure, Result.andThen, r_agg ha, Bool.false_eq_true, if_false, Go.load, Sem.run, hv]

theorem set_splice (l : List Value) (k : Nat) (v : Value) (vs : List Value) (hk : k < l.length) :
    (l.set k v).take (k + 1) ++ (vs ++ (l.set k v).drop (k + 1 + vs.length)) = l.take k ++ (v :: vs ++ l.drop (k + (vs.length + 1))) := by
  have h1 : (l.set k v).take (k + 1) = l.take k ++ [v] := by
    rw [List.set_eq_take_append_cons_drop, if_pos hk, List.take_append]
    have : k + 1 - (l.take k).length = 1 := by rw [List.length_take]; omega
    rw [this, List.take_of_length_le (by rw [List.length_take]; omega)]
    simp
  have h2 : (l.set k v).drop (k + 1 + vs.length) = l.drop (k + (vs.length + 1)) := by
    rw [List.drop_set_of_lt (by omega)]
    congr 1
    omega
  rw [h1, h2]
  simp

/-- A row of cells written from a place on. -/
theorem r_storeCells {r o : Nat} {e : TypeId} {fr : Nat × Nat} : ∀ (vs : List Value) (i : Nat) (cr : Array Value) (w : World), w.heap[r]? = some (.cells cr e fr) → (fr.1 = fr.2 ∨ cr.size ≤ fr.1) → o + i + vs.length ≤ cr.size →
    (∀ v ∈ vs, Sh.oneCell v = true) → ∃ w', (storeCells ⟨r, o, none⟩ vs i).run P w = .ok () w' ∧ w'.heap.size = w.heap.size ∧ (∀ x, x ≠ r → w'.heap[x]? = w.heap[x]?) ∧ w'.os = w.os ∧ w'.tape = w.tape ∧ w'.output = w.output ∧
      w'.heap[r]? = some (.cells ⟨cr.toList.take (o + i) ++ (vs ++ cr.toList.drop (o + i + vs.length))⟩ e fr)
  | [], i, cr, w, hb, _, _, _ => by
    refine ⟨w, by simp [storeCells], rfl, fun _ _ => rfl, rfl, rfl, rfl, ?_⟩
    rw [hb]
    simp
  | v :: vs, i, cr, w, hb, hfr, hfit, hone => by
    simp only [List.length_cons] at hfit
    have hidx : o + i < cr.size := by omega
    have hcell : w.cell? ((⟨r, o, none⟩ : Addr).add i) = some cr[o + i] := by rw [cell_add hb]; simp [hidx]
    have hfz : w.frozen? ((⟨r, o, none⟩ : Addr).add i) = false := by
      have : ((⟨r, o, none⟩ : Addr).add i).block = r ∧ ((⟨r, o, none⟩ : Addr).add i).off = o + i := by
        unfold Addr.add; by_cases hi : i = 0 <;> simp [hi]
      simp only [World.frozen?, this.1, this.2, hb]
      rcases hfr with h | h
      · simp only [Bool.and_eq_false_iff, decide_eq_false_iff_not]; omega
      · simp only [Bool.and_eq_false_iff, decide_eq_false_iff_not]; omega
    have hset : (w.setCell ((⟨r, o, none⟩ : Addr).add i) v).heap[r]? = some (.cells (cr.setIfInBounds (o + i) v) e fr) := by
      have h1 : ((⟨r, o, none⟩ : Addr).add i).block = r ∧ ((⟨r, o, none⟩ : Addr).add i).off = o + i ∧ ((⟨r, o, none⟩ : Addr).add i).spot = none := by
        unfold Addr.add; by_cases hi : i = 0 <;> simp [hi]
      simp only [World.setCell]
      rw [Array.getElem?_modify]
      simp [h1, hb]
    obtain ⟨w', h1, h2, h3, h4, h5, h6, h7⟩ := r_storeCells (r := r) (o := o) vs (i + 1) (cr.setIfInBounds (o + i) v) (w.setCell ((⟨r, o, none⟩ : Addr).add i) v) hset (by simpa using hfr) (by rw [Array.size_setIfInBounds]; omega) (fun u hu => hone u (by simp [hu]))
    have hv1 := hone v (by simp)
    refine ⟨w', ?_, ?_, ?_, h4, h5, h6, ?_⟩
    · unfold storeCells
      rw [Sem.run_bind]
      have : (Go.store ((⟨r, o, none⟩ : Addr).add i) v).run P w = .ok () (w.setCell ((⟨r, o, none⟩ : Addr).add i) v) := by
        unfold Go.store
        cases v <;> first | (simp [Sh.oneCell] at hv1; done) | simp [Sem.run, hcell, hfz]
      rw [this]
      exact h1
    · rw [h2]; simp [World.setCell]
    · intro x hx
      rw [h3 x hx]
      have hblk : ((⟨r, o, none⟩ : Addr).add i).block = r := by unfold Addr.add; by_cases hi : i = 0 <;> simp [hi]
      simp only [World.setCell]
      rw [Array.getElem?_modify, hblk]
      simp [Ne.symm hx]
    · rw [h7]
      congr 2
      rw [Array.mk.injEq, Array.toList_setIfInBounds]
      have e1 : o + (i + 1) = (o + i) + 1 := by omega
      rw [e1]
      simp only [List.length_cons]
      exact set_splice cr.toList (o + i) v vs (by simpa using hidx)

theorem allOne_spec : ∀ {l : List Value}, allOne l = true → ∀ v ∈ l, Sh.oneCell v = true
  | [], _, v, hv => by cases hv
  | u :: r, h, v, hv => by
    unfold allOne at h
    cases ho : Sh.oneCell u with
    | false => rw [ho] at h; cases h
    | true =>
      rw [ho] at h
      rcases List.mem_cons.1 hv with rfl | hv
      · exact ho
      · exact allOne_spec h v hv

theorem F2.one {l l' : List Value} (h : F2 (V κ) l l') (h' : ∀ v ∈ l', Sh.oneCell v = true) : ∀ v ∈ l, Sh.oneCell v = true := by
  induction h with
  | nil => intro v hv; cases hv
  | cons hab _ ih =>
    intro v hv
    rcases List.mem_cons.1 hv with rfl | hv
    · rw [hab.oneCell]; exact h' _ (by simp)
    · exact ih (fun v hv => h' v (by simp [hv])) v hv

theorem Rel.splice (hR : Rel κ σ w) {s : Nat} {bi : BI} {c : List Value} {e : TypeId} {x : Bool} {vr off : Nat} (hk : κ s = some bi) (hg : σ.get s = some (.cells c e x false vr)) {vs vs' : List Value} (hv : F2 (V κ) vs vs')
    (hfit : off + vs'.length ≤ c.length) (hone : ∀ v ∈ vs', Sh.oneCell v = true) :
    ∃ w', (storeCells ⟨bi.r, off + bi.d, none⟩ vs 0).run P w = .ok () w' ∧ Rel κ (σ.setObj s (.cells (Sh.splice c off vs') e x false (vr + 1))) w' ∧ Post κ κ σ (σ.setObj s (.cells (Sh.splice c off vs') e x false (vr + 1))) w w' := by
  obtain ⟨cr, fr, h1, h2, h3, h4, h5, h6⟩ := hR.cont _ _ _ hk hg
  have hl := hv.length
  obtain ⟨w', r1, r2, r3, r4, r5, r6, r7⟩ := r_storeCells (P := P) (r := bi.r) (o := off + bi.d) vs 0 cr w h1 (h6 rfl) (by omega) (hv.one hone)
  have hsl : (Sh.splice c off vs').length = c.length := by
    simp only [Sh.splice, List.length_append, List.length_take, List.length_drop]; omega
  refine ⟨w', r1, ?_⟩
  refine hR.upd hk hg (v := vr) rfl (by intro u hu; simp only [Sh.ver, Option.some.injEq] at hu; omega) r2 r3 r4 r5 r6 ?_
  have hsz : (⟨cr.toList.take (off + bi.d + 0) ++ (vs ++ cr.toList.drop (off + bi.d + 0 + vs.length))⟩ : Array Value).size = cr.size := by
    simp only [List.size_toArray, List.length_append, List.length_take, List.length_drop, Array.length_toList]; omega
  refine ⟨_, fr, r7, by rw [hsz, h2], by rw [hsz, hsl]; exact h3, ?_, ?_, ?_⟩
  · have := splice_rel (κ := κ) (cr := cr.toList) (c := c) (d := bi.d) (off := off) (vs := vs) (vs' := vs') (by simpa using h3) h4 hv hfit
    simpa using this
  · intro hx
    obtain ⟨a, b⟩ := h5 hx
    exact ⟨a, by rw [hsl, hsz, b]⟩
  · intro hf
    rw [hsz]; exact h6 rfl

theorem r_storeAt (hR : Rel κ σ w) {t : TypeId} {x x' v v' : Value} {σ' : SW} (hx : V κ x x') (hv : V κ v v') (h : sstore E t x' v' σ = some σ') :
    ∃ w', (Instr.storeAt t x v).run E.P w = .ok () w' ∧ Rel κ σ' w' ∧ Post κ κ σ σ' w w' := by
  unfold sstore at h
  cases hx <;> first | (simp at h; done) | skip
  rename_i s off bi hk
  cases hi : E.P.info? t with
  | none => rw [hi] at h; simp at h
  | some i =>
    rw [hi] at h
    simp only at h
    cases hg : σ.get s with
    | none => rw [hg] at h; simp at h
    | some o =>
      rw [hg] at h
      cases o with
      | cells c e x f ver =>
        cases f with
        | true => simp at h
        | false =>
          simp only at h
          cases hb : (Nat.beq v'.cells.toList.length i.size && Nat.ble (off + v'.cells.toList.length) c.length && allOne v'.cells.toList) with
          | false => rw [hb] at h; simp at h
          | true =>
            rw [hb] at h
            simp only [cond_true, Option.some.injEq] at h
            simp only [Bool.and_eq_true] at hb
            obtain ⟨⟨hb1, hb2⟩, hb3⟩ := hb
            have hsz := Nat.eq_of_beq_eq_true hb1
            have hfit := Nat.le_of_ble_eq_true hb2
            subst h
            have hcs : F2 (V κ) v.cells.toList v'.cells.toList := hv.cells
            obtain ⟨w', h1, h2, h3⟩ := hR.splice (P := E.P) hk hg hcs hfit (allOne_spec hb3)
            refine ⟨w', ?_, h2, h3⟩
            have hlen := hcs.length
            have hne : ¬ v.cells.size ≠ i.size := by
              have : v.cells.size = v.cells.toList.length := by simp
              rw [this, hlen, hsz]; simp
            simp only [Instr.storeAt, Instr.sureAddr, storeVar, Sem.run_bind, Sem.run_pure, Result.andThen, r_size hi, if_neg hne]
            exact h1
      | _ => simp at h
end
end Go.Sh

namespace Go.Sh
open Go

section
variable {P : Program} {E : Env} {κ : K} {σ : SW} {w : World}

/-- Every struct's fields have types that the program knows. -/
def FP (P : Program) (n : Nat) : Prop := ∀ t fields, t < n → P.underlying t = some (.struct fields) → ∀ f ∈ fields.toList, ∃ i, P.info? f.type = some i

theorem r_mapM {α β : Type} {g : α → Sem β} {h : α → β} : ∀ (l : List α), (∀ a ∈ l, (g a).run P w = .ok (h a) w) → (l.mapM g).run P w = .ok (l.map h) w
  | [], _ => by simp
  | a :: l, hl => by
    rw [List.mapM_cons, Sem.run_bind, hl a (by simp)]
    simp only [Result.andThen]
    rw [Sem.run_bind, r_mapM l (fun b hb => hl b (by simp [hb]))]
    simp [Result.andThen]

theorem r_amapM {α β : Type} {g : α → Sem β} {h : α → β} (a : Array α) (hl : ∀ x ∈ a.toList, (g x).run P w = .ok (h x) w) : (a.mapM g).run P w = .ok (a.map h) w := by
  rw [Array.mapM_eq_mapM_toList, Sem.run_map, r_mapM a.toList hl]
  simp only [Result.andThen]
  congr 1
  apply Array.ext'
  simp

theorem fold_splice (off : Nat) : ∀ (vs : List Value) (k : Nat) (cells : Array Value), off + k + vs.length ≤ cells.size →
    (vs.zipIdx k).foldl (fun cs (x : Value × Nat) => cs.setIfInBounds (off + x.2) x.1) cells = ⟨cells.toList.take (off + k) ++ (vs ++ cells.toList.drop (off + k + vs.length))⟩
  | [], k, cells, _ => by simp
  | v :: vs, k, cells, h => by
    simp only [List.length_cons] at h
    rw [List.zipIdx_cons, List.foldl_cons, fold_splice off vs (k + 1) _ (by rw [Array.size_setIfInBounds]; omega)]
    rw [Array.mk.injEq, Array.toList_setIfInBounds]
    have := set_splice cells.toList (off + k) v vs (by simp; omega)
    have e1 : off + (k + 1) = off + k + 1 := by omega
    rw [e1]
    simpa using this

theorem fill_rel {place place' : Nat → Option (Nat × Nat)} (hp : ∀ i x, place' i = some x → place i = some x) : ∀ (parts parts' : List (Nat × Value)) (cells : Array Value) (cells' l' : List Value),
    F2 (fun x y => x.1 = y.1 ∧ V κ x.2 y.2) parts parts' → F2 (V κ) cells.toList cells' → sfill place' cells' parts' = some l' → ∃ l, Instr.fill place cells parts = some l ∧ F2 (V κ) l.toList l'
  | [], [], cells, cells', l', _, hc, h => by
    simp only [sfill, Option.some.injEq] at h
    subst h
    exact ⟨cells, rfl, hc⟩
  | [], _ :: _, _, _, _, h, _, _ => nomatch h
  | _ :: _, [], _, _, _, h, _, _ => nomatch h
  | (i, v) :: r, (i', v') :: r', cells, cells', l', hpp, hc, h => by
    cases hpp with
    | cons hh ht =>
      obtain ⟨h1, h2⟩ := hh
      simp only at h1 h2
      subst h1
      unfold sfill at h
      cases hpl : place' i with
      | none => rw [hpl] at h; simp at h
      | some os =>
        obtain ⟨off, size⟩ := os
        rw [hpl] at h
        simp only at h
        cases hb : (Nat.beq v'.cells.toList.length size && Nat.ble (off + v'.cells.toList.length) cells'.length) with
        | false => rw [hb] at h; simp at h
        | true =>
          rw [hb] at h
          simp only [cond_true] at h
          simp only [Bool.and_eq_true] at hb
          have hsz := Nat.eq_of_beq_eq_true hb.1
          have hfit := Nat.le_of_ble_eq_true hb.2
          have hvc : F2 (V κ) v.cells.toList v'.cells.toList := h2.cells
          have hlen := hvc.length
          have hcl := hc.length
          have hvs : v.cells.size = v'.cells.toList.length := by rw [← hlen]; simp
          have hcs : cells.size = cells'.length := by rw [← hcl]; simp
          have hcond : (v.cells.size ≠ size || off + v.cells.size > cells.size) = false := by
            rw [hvs, hcs, ← hsz]
            simp only [ne_eq, not_true_eq_false, decide_false, Bool.false_or, decide_eq_false_iff_not]
            omega
          unfold Instr.fill
          rw [hp _ _ hpl]
          simp only [hcond, Bool.false_eq_true, if_false]
          have hf : v.cells.zipIdx.foldl (fun cs (x : Value × Nat) => cs.setIfInBounds (off + x.2) x.1) cells = ⟨cells.toList.take off ++ (v.cells.toList ++ cells.toList.drop (off + v.cells.toList.length))⟩ := by
            rw [← Array.foldl_toList, Array.toList_zipIdx]
            have := fold_splice off v.cells.toList 0 cells (by rw [hlen, ← hvs, hcs, hvs]; simpa using hfit)
            simpa using this
          have hrel : F2 (V κ) (⟨cells.toList.take off ++ (v.cells.toList ++ cells.toList.drop (off + v.cells.toList.length))⟩ : Array Value).toList (Sh.splice cells' off v'.cells.toList) := by
            show F2 (V κ) (cells.toList.take off ++ (v.cells.toList ++ cells.toList.drop (off + v.cells.toList.length))) _
            rw [hlen]
            exact (hc.take off).append (hvc.append (hc.drop _))
          obtain ⟨l, hl1, hl2⟩ := fill_rel hp r r' _ _ l' ht hrel h
          refine ⟨l, ?_, hl2⟩
          rw [← hf] at hl1
          exact hl1

theorem r_build (hz : ZP E.P E.nt) (hf : FP E.P E.nt) {t : TypeId} {parts : Array (Nat × Value)} {parts' : List (Nat × Value)} {v' : Value} (hp : F2 (fun x y => x.1 = y.1 ∧ V κ x.2 y.2) parts.toList parts')
    (h : sbuild E t parts' = some v') : ∃ v, (Instr.build t parts).run E.P w = .ok v w ∧ V κ v v' := by
  unfold sbuild at h
  obtain ⟨hnt, h⟩ := of_guard_lt h
  cases hi : E.P.info? t with
  | none => rw [hi] at h; simp at h
  | some inf =>
    cases hu : E.P.underlying t with
    | none => rw [hi, hu] at h; simp at h
    | some d =>
      rw [hi, hu] at h
      cases d with
      | struct fields =>
        simp only at h
        cases hzz : inf.zero with
        | none => rw [hzz] at h; simp at h
        | some z =>
          rw [hzz] at h
          simp only [Option.map_eq_some_iff] at h
          obtain ⟨l', hl', rfl⟩ := h
          have hzv : F2 (V κ) z.cells.toList z.cells.toList := (hz t inf z hnt hi hzz κ).cells
          have hall := hf t fields hnt hu
          let g : Field → Nat × Nat := fun f => (f.offset, ((E.P.info? f.type).map (·.size)).getD 0)
          have hm : (fields.mapM fun f => do pure (f.offset, ← Go.sizeOf f.type) : Sem (Array (Nat × Nat))).run E.P w = .ok (fields.map g) w := by
            refine r_amapM fields fun f hff => ?_
            obtain ⟨i, hi⟩ := hall f hff
            simp [r_size hi, Result.andThen, g, hi]
          have hpl : ∀ (i : Nat) (x : Nat × Nat), (match fields.toList[i]? with | some (fl : Field) => (match E.P.info? fl.type with | some i => some (fl.offset, i.size) | none => none) | none => none) = some x → (fields.map g)[i]? = some x := by
            intro i x hx
            cases hfi : fields.toList[i]? with
            | none => rw [hfi] at hx; simp at hx
            | some fl =>
              rw [hfi] at hx
              simp only at hx
              cases hii : E.P.info? fl.type with
              | none => rw [hii] at hx; simp at hx
              | some ii =>
                rw [hii] at hx
                simp only [Option.some.injEq] at hx
                subst hx
                have : fields[i]? = some fl := by simpa using hfi
                simp [this, g, hii]
          obtain ⟨l, hl1, hl2⟩ := fill_rel (κ := κ) hpl parts.toList parts' z.cells z.cells.toList l' hp hzv hl'
          refine ⟨.agg l, ?_, .agg' hl2⟩
          simp only [Instr.build, Sem.run_bind, r_zero hi hzz, Result.andThen, r_under hu, hm, hl1, Sem.run_pure]
      | array n elem =>
        simp only at h
        cases hzz : inf.zero with
        | none => rw [hzz] at h; simp at h
        | some z =>
          cases hie : E.P.info? elem with
          | none => rw [hzz, hie] at h; simp at h
          | some ei =>
            rw [hzz, hie] at h
            simp only [Option.map_eq_some_iff] at h
            obtain ⟨l', hl', rfl⟩ := h
            have hzv : F2 (V κ) z.cells.toList z.cells.toList := (hz t inf z hnt hi hzz κ).cells
            obtain ⟨l, hl1, hl2⟩ := fill_rel (κ := κ) (place := fun i => some (i * ei.size, ei.size)) (fun i x h => h) parts.toList parts' z.cells z.cells.toList l' hp hzv hl'
            refine ⟨.agg l, ?_, .agg' hl2⟩
            simp only [Instr.build, Sem.run_bind, r_zero hi hzz, Result.andThen, r_under hu, r_size hie, hl1, Sem.run_pure]
      | _ => simp at h

theorem rep_nil : ∀ n, rep n [] = []
  | 0 => rfl
  | n + 1 => by simp [rep, rep_nil n]

theorem rep_range (z : Array Value) (len size : Nat) (hs : z.size = size) (_hpos : len * size ≠ 0) : ((Array.range (len * size)).map (z[· % z.size]!)).toList = rep len z.toList := by
  have key : ∀ len, (List.range (len * size)).map (fun i => z[i % z.size]!) = rep len z.toList := by
    intro len
    induction len with
    | zero => simp [rep]
    | succ n ih =>
      have e : (n + 1) * size = size + n * size := by rw [Nat.succ_mul]; omega
      rw [e, List.range_add, List.map_append]
      unfold rep
      congr 1
      · apply List.ext_getElem?
        intro i
        by_cases hi : i < size
        · have : i < z.size := by omega
          simp [hi, Nat.mod_eq_of_lt this, this]
        · have : ¬ i < z.size := by omega
          simp [hi, this]
      · rw [← ih, List.map_map]
        apply List.map_congr_left
        intro i _
        simp [hs]
  simpa using key len

theorem r_buildSlice (hz : ZP E.P E.nt) {t : TypeId} {len : Nat} {parts : Array (Nat × Value)} {parts' : List (Nat × Value)} {v' : Value} {b : Nat} {so : SObj} (hp : F2 (fun x y => x.1 = y.1 ∧ V κ x.2 y.2) parts.toList parts')
    (h : sbuildSlice E t len parts' b = some (v', so)) : NewV E.P κ w (Instr.buildSlice t len parts) b v' so := by
  unfold sbuildSlice at h
  cases hu : E.P.underlying t with
  | none => rw [hu] at h; simp at h
  | some d =>
    rw [hu] at h
    cases d with
    | slice elem =>
      simp only at h
      cases hi : E.P.info? elem with
      | none => rw [hi] at h; simp at h
      | some inf =>
        rw [hi] at h
        simp only at h
        obtain ⟨hnt, h⟩ := of_guard_lt h
        cases hzz : inf.zero with
        | none => rw [hzz] at h; simp at h
        | some z =>
          rw [hzz] at h
          simp only at h
          cases h1 : Nat.ble (len * inf.size) (2 ^ 24) with
          | false => rw [h1] at h; simp at h
          | true =>
            cases h2 : Nat.beq z.cells.toList.length inf.size with
            | false => rw [h1, h2] at h; simp at h
            | true =>
              cases h3 : sfill (fun i => some (i * inf.size, inf.size)) (rep len z.cells.toList) parts' with
              | none => rw [h1, h2, h3] at h; simp at h
              | some l' =>
                rw [h1, h2, h3] at h
                simp only [Option.some.injEq, Prod.mk.injEq] at h
                obtain ⟨rfl, rfl⟩ := h
                have hle := Nat.le_of_ble_eq_true h1
                have hsz : z.cells.size = inf.size := by have := Nat.eq_of_beq_eq_true h2; simpa using this
                have hzc : F2 (V κ) z.cells.toList z.cells.toList := (hz elem inf z hnt hi hzz κ).cells
                have hrep : ∀ n, F2 (V κ) (rep n z.cells.toList) (rep n z.cells.toList) := by
                  intro n
                  induction n with
                  | zero => exact .nil
                  | succ n ih => exact hzc.append ih
                let zc : Array Value := if len * inf.size = 0 then #[] else z.cells
                have hrow : ((Array.range (len * inf.size)).map (zc[· % zc.size]!)).toList = rep len z.cells.toList := by
                  by_cases h0 : len * inf.size = 0
                  · have e1 : rep len z.cells.toList = [] := by
                      rcases Nat.mul_eq_zero.1 h0 with h | h
                      · subst h; rfl
                      · have hz0 : z.cells.toList = [] := by
                          have : z.cells.toList.length = 0 := by simp [hsz, h]
                          exact List.eq_nil_of_length_eq_zero this
                        rw [hz0]
                        exact rep_nil len
                    rw [e1, h0]
                    simp
                  · have : zc = z.cells := if_neg h0
                    rw [this]
                    exact rep_range z.cells len inf.size hsz h0
                obtain ⟨l, hl1, hl2⟩ := fill_rel (κ := κ) (place := fun i => some (i * inf.size, inf.size)) (fun i x h => h) parts.toList parts' ((Array.range (len * inf.size)).map (zc[· % zc.size]!)) (rep len z.cells.toList) l' hp
                  (by rw [hrow]; exact hrep len) h3
                have hll : l.size = len * inf.size := by
                  have hfs : ∀ (place : Nat → Option (Nat × Nat)) (ps : List (Nat × Value)) (c l : Array Value), Instr.fill place c ps = some l → l.size = c.size := by
                    intro place ps
                    induction ps with
                    | nil => intro c l h; simp only [Instr.fill, Option.some.injEq] at h; rw [h]
                    | cons p ps ih =>
                      intro c l h
                      obtain ⟨i, v⟩ := p
                      unfold Instr.fill at h
                      cases hpl : place i with
                      | none => rw [hpl] at h; simp at h
                      | some os =>
                        rw [hpl] at h
                        simp only at h
                        split at h
                        · cases h
                        · rw [ih _ _ h]
                          have : ∀ (xs : List (Value × Nat)) (off : Nat) (c : Array Value), (xs.foldl (fun cs (x : Value × Nat) => cs.setIfInBounds (off + x.2) x.1) c).size = c.size := by
                            intro xs off
                            induction xs with
                            | nil => intro c; rfl
                            | cons x xs ih => intro c; rw [List.foldl_cons, ih]; simp
                          rw [← Array.foldl_toList]
                          exact this _ _ _
                  rw [hfs _ _ _ _ hl1]; simp
                refine ⟨.slice (some ⟨w.heap.size, 0, none⟩) len len, _, .cells l elem, l.size, ?_, rfl, rfl, rfl, rfl, fun κ2 hle2 hk2 => ⟨?_, ?_⟩⟩
                · have hbig : ¬ len * inf.size > 2 ^ 24 := by omega
                  simp only [Instr.buildSlice, Sem.run_bind, r_under hu, Result.andThen, r_size hi, if_neg hbig]
                  by_cases h0 : len * inf.size = 0
                  · have hzc0 : zc = #[] := if_pos h0
                    rw [hzc0] at hl1
                    simp only [if_pos h0, Sem.run_bind, Sem.run_pure, Result.andThen, hl1, newRow, newObj, Sem.run]
                    rfl
                  · have hzc1 : zc = z.cells := if_neg h0
                    rw [hzc1] at hl1
                    simp only [if_neg h0, Sem.run_bind, Sem.run_pure, Result.andThen, r_zero hi hzz, hl1, newRow, newObj, Sem.run]
                    rfl
                · have := V.slice (κ := κ2) (s := b) (off := 0) (len := len) (cap := len) (e := inf.size) hk2 (Nat.le_refl _) (.inr (by simp only; omega))
                  simpa using this
                · refine ⟨l, (0, 0), rfl, rfl, ?_, ?_, fun _ => ⟨rfl, ?_⟩, fun _ => .inl rfl⟩
                  · have := hl2.length; simp only [Array.length_toList] at this; show 0 + l'.length ≤ l.size; omega
                  · simp only [List.drop_zero]
                    rw [← hl2.length, List.take_length]
                    exact hl2.mono fun _ _ h => h.mono hle2
                  · have := hl2.length; simp only [Array.length_toList] at this; omega
    | _ => simp at h
end
end Go.Sh

namespace Go.Sh
open Go

section
variable {P : Program} {E : Env} {κ : K} {σ : SW} {w : World}

inductive OV (κ : K) : Option Value → Option Value → Prop
  | none : OV κ none none
  | some {v v' : Value} : V κ v v' → OV κ (some v) (some v')

theorem natOf_some {v v' : Value} {d n : Nat} (hv : V κ v v') (h : natOf (some v') d = some n) : ∃ k : IntKind, v = .int k (n : Int) ∧ v' = .int k (n : Int) := by
  cases hv <;> first | (simp [natOf] at h; done) | skip
  rename_i k i
  unfold natOf at h
  simp only at h
  cases hb : decide (0 ≤ i) with
  | false => rw [hb] at h; simp at h
  | true =>
    rw [hb] at h
    simp only [cond_true, Option.some.injEq] at h
    have : 0 ≤ i := by simpa using hb
    refine ⟨k, ?_, ?_⟩ <;> (congr 1; omega)

theorem r_sliceBound {v v' : Value} {d n y : Nat} {code : BoundsCode} (hv : V κ v v') (h : natOf (some v') d = some n) (hy : n ≤ y) : (Instr.sliceBound v y code).run P w = .ok n w := by
  obtain ⟨k, rfl, _⟩ := natOf_some hv h
  have h1 : (0 : Int) ≤ (n : Int) ∧ (n : Int) ≤ (y : Int) := ⟨by omega, by omega⟩
  simp only [Instr.sliceBound, asIntOf, Sem.run_bind, Sem.run_pure, Result.andThen]
  rw [if_pos h1]
  simp

theorem r_sliceBounds {b : Bool} {len cap l h m : Nat} {lo lo' hi hi' mx mx' : Option Value} (hlo : OV κ lo lo') (hhi : OV κ hi hi') (hmx : OV κ mx mx') (h1 : natOf lo' 0 = some l) (h2 : natOf hi' len = some h) (h3 : natOf mx' len = some m)
    (hb : mxok mx' hi' = true) (hlh : l ≤ h) (hhm : h ≤ m) (hml : m ≤ len) (hlc : len ≤ cap) :
    ∃ mr, (Instr.sliceBounds b len cap lo hi mx).run P w = .ok (l, h, mr) w ∧ m ≤ mr ∧ mr ≤ cap := by
  cases hmx with
  | none =>
    refine ⟨cap, ?_, by omega, Nat.le_refl _⟩
    cases hhi with
    | none =>
      simp only [natOf, Option.some.injEq] at h2
      subst h2
      cases hlo with
      | none =>
        simp only [natOf, Option.some.injEq] at h1
        subst h1
        simp [Instr.sliceBounds]
      | some hv =>
        simp [Instr.sliceBounds, r_sliceBound hv h1 hlh, Result.andThen]
    | some hv2 =>
      have e2 : ∀ code, (Instr.sliceBound _ cap code).run P w = .ok h w := fun code => r_sliceBound hv2 h2 (by omega)
      cases hlo with
      | none =>
        simp only [natOf, Option.some.injEq] at h1
        subst h1
        simp [Instr.sliceBounds, e2, Result.andThen]
      | some hv =>
        simp [Instr.sliceBounds, Sem.run_bind, e2, r_sliceBound hv h1 hlh, Result.andThen]
  | some hv3 =>
    refine ⟨m, ?_, Nat.le_refl _, by omega⟩
    have e3 : ∀ code, (Instr.sliceBound _ cap code).run P w = .ok m w := fun code => r_sliceBound hv3 h3 (by omega)
    cases hhi with
    | none => simp [mxok] at hb
    | some hv2 =>
      have e2 : ∀ code, (Instr.sliceBound _ m code).run P w = .ok h w := fun code => r_sliceBound hv2 h2 (by omega)
      cases hlo with
      | none =>
        simp only [natOf, Option.some.injEq] at h1
        subst h1
        simp [Instr.sliceBounds, Sem.run_bind, e3, e2, Result.andThen]
      | some hv =>
        simp [Instr.sliceBounds, Sem.run_bind, e3, e2, r_sliceBound hv h1 hlh, Result.andThen]

theorem ba_extract (s : ByteArray) (a b : Nat) : s.extract a b = ⟨⟨(s.data.toList.drop a).take (b - a)⟩⟩ := by
  apply ByteArray.ext
  apply Array.ext'
  exact Lib.extract_data s a b

theorem r_slice {t : TypeId} {x x' v' : Value} {lo lo' hi hi' mx mx' : Option Value} {σ' : SW} (hx : V κ x x') (hlo : OV κ lo lo') (hhi : OV κ hi hi') (hmx : OV κ mx mx') (h : sslice E t x' lo' hi' mx' σ = some (v', σ')) :
    σ' = σ ∧ ∃ v, (Instr.sliceAt t x lo hi mx).run E.P w = .ok v w ∧ V κ v v' := by
  unfold sslice at h
  cases hu : E.P.underlying t with
  | none => rw [hu] at h; simp at h
  | some d =>
    rw [hu] at h
    cases d with
    | string =>
      cases hx <;> first | (simp at h; done) | skip
      rename_i s
      simp only at h
      cases h1 : natOf lo' 0 with
      | none => rw [h1] at h; simp at h
      | some l =>
        cases h2 : natOf hi' s.data.toList.length with
        | none => rw [h1, h2] at h; simp at h
        | some hh =>
          rw [h1, h2] at h
          cases hmx with
          | some _ => simp at h
          | none =>
            simp only at h
            cases hb : (Nat.ble l hh && Nat.ble hh s.data.toList.length) with
            | false => rw [hb] at h; simp at h
            | true =>
              rw [hb] at h
              simp only [cond_true, Option.some.injEq, Prod.mk.injEq] at h
              obtain ⟨rfl, rfl⟩ := h
              simp only [Bool.and_eq_true] at hb
              have hlh := Nat.le_of_ble_eq_true hb.1
              have hhs := Nat.le_of_ble_eq_true hb.2
              have hsz : s.size = s.data.toList.length := by simp
              rw [← hsz] at h2 hhs
              obtain ⟨mr, hr, _, _⟩ := r_sliceBounds (P := E.P) (w := w) (b := false) (len := s.size) (cap := s.size) (m := s.size) hlo hhi .none h1 h2 rfl (by cases hhi <;> rfl) hlh hhs (Nat.le_refl _) (Nat.le_refl _)
              refine ⟨rfl, _, ?_, .string _⟩
              simp only [Instr.sliceAt, Sem.run_bind, r_under hu, Result.andThen, Instr.slice, Option.isSome_none, Bool.false_eq_true, if_false, Sem.run_pure, hr, ba_extract]
    | slice elem =>
      cases hx <;> first | (simp at h; done) | skip
      · -- nil
        simp only at h
        cases hi0 : E.P.info? elem with
        | none => rw [hi0] at h; simp at h
        | some info =>
          cases h1 : natOf lo' 0 with
          | none => rw [hi0, h1] at h; simp at h
          | some l =>
            cases h2 : natOf hi' 0 with
            | none => rw [hi0, h1, h2] at h; simp at h
            | some hh =>
              cases h3 : natOf mx' 0 with
              | none => rw [hi0, h1, h2, h3] at h; simp at h
              | some m =>
                rw [hi0, h1, h2, h3] at h
                simp only at h
                cases hb : (mxok mx' hi' && Nat.ble l hh && Nat.ble hh m && Nat.ble m 0 && (Nat.beq 0 0 || Nat.beq 0 info.size)) with
                | false => rw [hb] at h; simp at h
                | true =>
                  rw [hb] at h
                  simp only [cond_true, Option.some.injEq, Prod.mk.injEq] at h
                  obtain ⟨rfl, rfl⟩ := h
                  simp only [Bool.and_eq_true] at hb
                  obtain ⟨⟨⟨⟨b1, b2⟩, b3⟩, b4⟩, _⟩ := hb
                  have b2 := Nat.le_of_ble_eq_true b2
                  have b3 := Nat.le_of_ble_eq_true b3
                  have b4 := Nat.le_of_ble_eq_true b4
                  obtain ⟨mr, hr, hm1, hm2⟩ := r_sliceBounds (P := E.P) (w := w) (b := true) (len := 0) (cap := 0) hlo hhi hmx h1 h2 h3 b1 b2 b3 b4 (Nat.le_refl _)
                  have hm0 : mr = 0 := by omega
                  have hl0 : l = 0 := by omega
                  have hh0 : hh = 0 := by omega
                  subst hm0 hl0 hh0
                  refine ⟨rfl, .slice none 0 0, ?_, .snil⟩
                  simp [Instr.sliceAt, Sem.run_bind, r_under hu, Result.andThen, Instr.slice, hr, r_size hi0]
      · -- a row
        rename_i s off len cap e bi hk hle hbd
        simp only at h
        cases hi0 : E.P.info? elem with
        | none => rw [hi0] at h; simp at h
        | some info =>
          cases h1 : natOf lo' 0 with
          | none => rw [hi0, h1] at h; simp at h
          | some l =>
            cases h2 : natOf hi' len with
            | none => rw [hi0, h1, h2] at h; simp at h
            | some hh =>
              cases h3 : natOf mx' len with
              | none => rw [hi0, h1, h2, h3] at h; simp at h
              | some m =>
                rw [hi0, h1, h2, h3] at h
                simp only at h
                cases hb : (mxok mx' hi' && Nat.ble l hh && Nat.ble hh m && Nat.ble m len && (Nat.beq e 0 || Nat.beq e info.size)) with
                | false => rw [hb] at h; simp at h
                | true =>
                  rw [hb] at h
                  simp only [cond_true, Option.some.injEq, Prod.mk.injEq] at h
                  obtain ⟨rfl, rfl⟩ := h
                  simp only [Bool.and_eq_true, Bool.or_eq_true] at hb
                  obtain ⟨⟨⟨⟨b1, b2⟩, b3⟩, b4⟩, b5⟩ := hb
                  have b2 := Nat.le_of_ble_eq_true b2
                  have b3 := Nat.le_of_ble_eq_true b3
                  have b4 := Nat.le_of_ble_eq_true b4
                  obtain ⟨mr, hr, hm1, hm2⟩ := r_sliceBounds (P := E.P) (w := w) (b := true) (len := len) (cap := cap) hlo hhi hmx h1 h2 h3 b1 b2 b3 b4 hle
                  have hrun : (Instr.sliceAt t (.slice (some ⟨bi.r, off + bi.d, none⟩) len cap) lo hi mx).run E.P w = .ok (.slice (if mr = l then some ⟨bi.r, off + bi.d, none⟩ else some ((⟨bi.r, off + bi.d, none⟩ : Addr).add (l * info.size))) (hh - l) (mr - l)) w := by
                    simp [Instr.sliceAt, Sem.run_bind, r_under hu, Result.andThen, Instr.slice, hr, r_size hi0]
                  refine ⟨rfl, _, hrun, ?_⟩
                  have hsa : ∀ (b o : Nat), ((⟨b, o, none⟩ : Addr).add (l * info.size)) = ⟨b, o + l * info.size, none⟩ := by
                    intro b o
                    unfold Addr.add
                    by_cases h0 : l * info.size = 0 <;> simp [h0]
                  simp only [Option.map_some, hsa]
                  by_cases hml : mr = l
                  · rw [if_pos hml]
                    have e1 : hh - l = 0 := by omega
                    have e2 : mr - l = 0 := by omega
                    rw [e1, e2]
                    exact .szero hk
                  · rw [if_neg hml]
                    have e1 : off + bi.d + l * info.size = (off + l * info.size) + bi.d := by omega
                    rw [e1]
                    refine .slice hk (by omega) ?_
                    rcases b5 with b5 | b5
                    · exact .inl (Nat.eq_of_beq_eq_true b5)
                    · have he : e = info.size := Nat.eq_of_beq_eq_true b5
                      rcases hbd with hbd | hbd
                      · exact .inl hbd
                      · refine .inr ?_
                        rw [← he]
                        have h4 : l * e + (mr - l) * e = mr * e := by rw [← Nat.add_mul]; congr 1; omega
                        have h5 : mr * e ≤ cap * e := Nat.mul_le_mul_right e hm2
                        omega
      · -- no room
        rename_i ra sa e bz hkz
        simp only at h
        cases hi0 : E.P.info? elem with
        | none => rw [hi0] at h; simp at h
        | some info =>
          cases h1 : natOf lo' 0 with
          | none => rw [hi0, h1] at h; simp at h
          | some l =>
            cases h2 : natOf hi' 0 with
            | none => rw [hi0, h1, h2] at h; simp at h
            | some hh =>
              cases h3 : natOf mx' 0 with
              | none => rw [hi0, h1, h2, h3] at h; simp at h
              | some m =>
                rw [hi0, h1, h2, h3] at h
                simp only at h
                cases hb : (mxok mx' hi' && Nat.ble l hh && Nat.ble hh m && Nat.ble m 0 && (Nat.beq e 0 || Nat.beq e info.size)) with
                | false => rw [hb] at h; simp at h
                | true =>
                  rw [hb] at h
                  simp only [cond_true, Option.some.injEq, Prod.mk.injEq] at h
                  obtain ⟨rfl, rfl⟩ := h
                  simp only [Bool.and_eq_true] at hb
                  obtain ⟨⟨⟨⟨b1, b2⟩, b3⟩, b4⟩, _⟩ := hb
                  have b2 := Nat.le_of_ble_eq_true b2
                  have b3 := Nat.le_of_ble_eq_true b3
                  have b4 := Nat.le_of_ble_eq_true b4
                  obtain ⟨mr, hr, hm1, hm2⟩ := r_sliceBounds (P := E.P) (w := w) (b := true) (len := 0) (cap := 0) hlo hhi hmx h1 h2 h3 b1 b2 b3 b4 (Nat.le_refl _)
                  have hm0 : mr = 0 := by omega
                  have hl0 : l = 0 := by omega
                  have hh0 : hh = 0 := by omega
                  subst hm0 hl0 hh0
                  refine ⟨rfl, .slice (some ra) 0 0, ?_, ?_⟩
                  · simp [Instr.sliceAt, Sem.run_bind, r_under hu, Result.andThen, Instr.slice, hr, r_size hi0]
                  · simp only [Option.map_some, Nat.sub_self]
                    exact .szero (bi := bz) (by unfold Addr.add; split <;> exact hkz)
    | _ => simp at h

theorem r_askRoom (n : Nat) : (askRoom n).run P w = .ok () w := by
  unfold askRoom
  split
  · simp [mark, Sem.run]
  · simp

theorem wrap_small {n : Nat} (h : n ≤ big) : IntKind.i64.wrap (n : Int) = n := by
  have : big = 70368744177664 := by simp [big]
  simp [IntKind.wrap, IntKind.bits, IntKind.signed]
  omega

theorem r_make (hz : ZP E.P E.nt) {t : TypeId} {len len' cap cap' v' : Value} {b : Nat} {so : SObj} (hl : V κ len len') (hc : V κ cap cap') (h : smake E t len' cap' b = some (v', so)) :
    NewV E.P κ w (Instr.makeSlice t len cap) b v' so := by
  unfold smake at h
  cases hu : E.P.underlying t with
  | none => rw [hu] at h; simp at h
  | some d =>
    rw [hu] at h
    cases d with
    | slice elem =>
      cases h1 : natOf (some len') 0 with
      | none => rw [h1] at h; simp at h
      | some l =>
        cases h2 : natOf (some cap') 0 with
        | none => rw [h1, h2] at h; simp at h
        | some c =>
          rw [h1, h2] at h
          simp only at h
          cases hi : E.P.info? elem with
          | none => rw [hi] at h; simp at h
          | some info =>
            rw [hi] at h
            simp only at h
            obtain ⟨hnt, h⟩ := of_guard_lt h
            cases hzz : info.zero with
            | none => rw [hzz] at h; simp at h
            | some z =>
              rw [hzz] at h
              simp only at h
              cases hb : (Nat.ble l c && Nat.ble (c * (info.bytes + 1)) big && Nat.beq z.cells.toList.length info.size) with
              | false => rw [hb] at h; simp at h
              | true =>
                rw [hb] at h
                simp only [cond_true, Option.some.injEq, Prod.mk.injEq] at h
                obtain ⟨rfl, rfl⟩ := h
                simp only [Bool.and_eq_true] at hb
                obtain ⟨⟨b1, b2⟩, b3⟩ := hb
                have b1 := Nat.le_of_ble_eq_true b1
                have b2 := Nat.le_of_ble_eq_true b2
                have b3 : z.cells.size = info.size := by have := Nat.eq_of_beq_eq_true b3; simpa using this
                obtain ⟨k1, rfl, rfl⟩ := natOf_some hl h1
                obtain ⟨k2, rfl, rfl⟩ := natOf_some hc h2
                have hbig : big = 70368744177664 := by simp [big]
                have hcb : c ≤ big := Nat.le_trans (Nat.le_mul_of_pos_right c (by omega)) b2
                have hcbb : info.bytes * c ≤ big := by
                  have : c * (info.bytes + 1) = c * info.bytes + c := Nat.mul_succ _ _
                  rw [Nat.mul_comm]; omega
                have hzc : F2 (V κ) z.cells.toList z.cells.toList := (hz elem info z hnt hi hzz κ).cells
                have hrep : ∀ n, F2 (V κ) (rep n z.cells.toList) (rep n z.cells.toList) := by
                  intro n
                  induction n with
                  | zero => exact .nil
                  | succ n ih => exact hzc.append ih
                have hrl : ∀ n, (rep n z.cells.toList).length = n * info.size := by
                  intro n
                  induction n with
                  | zero => simp [rep]
                  | succ n ih => rw [rep, List.length_append, ih, Nat.succ_mul]; simp [b3]; omega
                let zc : Array Value := if c * info.size = 0 then #[] else z.cells
                have hrow : ((Array.range (c * info.size)).map (zc[· % zc.size]!)) = ⟨rep c z.cells.toList⟩ := by
                  apply Array.ext'
                  by_cases h0 : c * info.size = 0
                  · have e1 : rep c z.cells.toList = [] := List.eq_nil_of_length_eq_zero (by rw [hrl, h0])
                    rw [e1, h0]
                    simp
                  · have : zc = z.cells := if_neg h0
                    rw [this]
                    exact rep_range z.cells c info.size b3 h0
                have hbytes : ((info.bytes : Int) * (c : Int)) ≤ big := by exact_mod_cast hcbb
                have hbytesl : ((info.bytes : Int) * (l : Int)) ≤ big := by
                  have : info.bytes * l ≤ big := Nat.le_trans (Nat.mul_le_mul_left _ b1) hcbb
                  exact_mod_cast this
                have hcond : ¬ (((decide ((c : Int) < 0) || decide ((info.bytes : Int) * (c : Int) > 2 ^ 48)) || decide ((l : Int) < 0) || decide ((l : Int) > (c : Int))) = true) := by
                  simp only [Bool.or_eq_true, decide_eq_true_eq]
                  omega
                refine ⟨.slice (some ⟨w.heap.size, 0, none⟩) l c, _, .cells ⟨rep c z.cells.toList⟩ elem, c * info.size, ?_, rfl, rfl, rfl, rfl, fun κ2 hle2 hk2 => ⟨?_, ?_⟩⟩
                · simp only [Instr.makeSlice, Sem.run_bind, r_under hu, Result.andThen, asInt, asIntOf, Sem.run_pure, r_info hi, wrap_small hcb, wrap_small (Nat.le_trans b1 hcb)]
                  rw [if_neg hcond]
                  by_cases h0 : c * info.size = 0
                  · have hzc0 : zc = #[] := if_pos h0
                    rw [hzc0] at hrow
                    simp only [Sem.run_bind, r_askRoom, Result.andThen, r_size hi, Int.toNat_natCast, if_pos h0, Sem.run_pure, newRow, newObj, Sem.run, hrow]
                    rfl
                  · have hzc1 : zc = z.cells := if_neg h0
                    rw [hzc1] at hrow
                    simp only [Sem.run_bind, r_askRoom, Result.andThen, r_size hi, Int.toNat_natCast, if_neg h0, r_zero hi hzz, Sem.run_pure, newRow, newObj, Sem.run, hrow]
                    rfl
                · have := V.slice (κ := κ2) (s := b) (off := 0) (len := l) (cap := c) (e := info.size) hk2 b1 (.inr (by simp))
                  simpa using this
                · refine ⟨_, (0, 0), rfl, by simp [hrl], by simp, ?_, fun _ => ⟨rfl, by simp⟩, fun _ => .inl rfl⟩
                  simp only [List.drop_zero, List.take_length]
                  exact (hrep c).mono fun _ _ h => h.mono hle2
    | _ => cases natOf (some len') 0 <;> cases natOf (some cap') 0 <;> simp at h
end
end Go.Sh
