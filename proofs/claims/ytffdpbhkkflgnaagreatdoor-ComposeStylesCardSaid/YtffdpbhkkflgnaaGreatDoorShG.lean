/- A call that the kernel runs in the shadow is a call of the program, and memory that was there stays. Conditions: as each theorem names them. -/
import Derived.Test.YtffdpbhkkflgnaaGreatDoorShF
import Derived.Test.YtffdpbhkkflgnaaGreatDoorShA
import Derived.Below

namespace Go.Sh
open Go

/-! ## A program's facts, by computation -/
noncomputable def plainV : Nat → Value → Bool
  | 0, _ => false
  | d + 1, v => match v with
    | .bool _ | .int .. | .float .. | .complex .. | .string _ | .pointer none | .map none | .chan none | .nilFunc | .nilIface => true
    | .slice none 0 0 => true
    | .iface _ x => plainV d x
    | .agg cs => cs.toList.all (plainV d)
    | .tuple cs => cs.toList.all (plainV d)
    | .func (.func _) a c => a.toList.all (plainV d) && c.toList.all (plainV d)
    | _ => false

theorem plainV_ok : ∀ (d : Nat) (v : Value), plainV d v = true → ∀ κ, V κ v v
  | 0, _, h => by simp [plainV] at h
  | d + 1, v, h => by
    have ih := plainV_ok d
    have lst : ∀ (cs : Array Value), cs.toList.all (plainV d) = true → ∀ κ, VA κ cs cs := by
      intro cs hc κ
      refine F2.of_get rfl fun i a b ha hb => ?_
      rw [ha] at hb; cases hb
      exact ih a (List.all_eq_true.1 hc a (List.mem_of_getElem? ha)) κ
    intro κ
    unfold plainV at h
    split at h
    · exact .bool _
    · exact .int _ _
    · exact .float _ _
    · exact .complex _ _ _
    · exact .string _
    · exact .pnil
    · exact .mnil
    · exact .cnil
    · exact .nilFunc
    · exact .nilIface
    · exact .snil
    · exact .iface (ih _ h κ)
    · exact .agg' (lst _ h κ)
    · exact .tuple' (lst _ h κ)
    · simp only [Bool.and_eq_true] at h
      exact .func' (.func _) (lst _ h.1 κ) (lst _ h.2 κ)
    · cases h

noncomputable def okOp (n : Nat) : Operand → Bool
  | .const v => plainV 12 v
  | .global g => Nat.blt g n
  | _ => true

noncomputable def okCode (n : Nat) : Code → Bool
  | .region _ ops _ => ops.toList.all fun o => o.op.operands.toList.all (okOp n)
  | .seq x y => okCode n x && okCode n y
  | .cond c x y => okOp n c && okCode n x && okCode n y
  | .block _ c => okCode n c
  | .loop c => okCode n c
  | .scope c => okCode n c
  | .rangeFunc f _ x y => okOp n f && okCode n x && okCode n y
  | _ => true

/-- The globals stand for themselves. -/
def GlobR (n : Nat) (κ : K) : Prop := ∀ g, g < n → ∃ bi, κ g = some bi ∧ bi.r = g ∧ bi.d = 0

theorem okOp_ok {n : Nat} {κ : K} (hg : GlobR n κ) {x : Operand} (h : okOp n x = true) : OpV κ x := by
  cases x with
  | const v => exact plainV_ok _ _ h κ
  | global g =>
    obtain ⟨bi, h1, h2, h3⟩ := hg g (by simpa [okOp, Nat.blt_eq] using h)
    have := V.ptr (κ := κ) (s := g) (off := 0) (bi := bi) h1
    rw [h2, h3] at this
    exact this
  | _ => trivial

theorem okCode_ok {n : Nat} {κ : K} (hg : GlobR n κ) {c : Code} (h : okCode n c = true) : CodeV κ c := by
  induction c with
  | region id ops dr => exact fun o ho x hx => okOp_ok hg (List.all_eq_true.1 (List.all_eq_true.1 h o ho) x hx)
  | seq x y i1 i2 => simp only [okCode, Bool.and_eq_true] at h; exact ⟨i1 h.1, i2 h.2⟩
  | cond c x y i1 i2 => simp only [okCode, Bool.and_eq_true] at h; exact ⟨okOp_ok hg h.1.1, i1 h.1.2, i2 h.2⟩
  | block id c ih => exact ih h
  | loop c ih => exact ih h
  | scope c ih => exact ih h
  | rangeFunc f ps x y i1 i2 => simp only [okCode, Bool.and_eq_true] at h; exact ⟨okOp_ok hg h.1.1, i1 h.1.2, i2 h.2⟩
  | _ => trivial

noncomputable def okCodes (n : Nat) (l : List Func) : Bool := l.all fun fn => match fn.body with | some c => okCode n c | none => true

theorem gk_of {E : Env} {n : Nat} {κ : K} (hg : GlobR n κ) (h : okCodes n (E.P.funcs.toList.take E.nf) = true) : GK E κ := by
  intro f fn c hnf hf hb
  have hm : fn ∈ E.P.funcs.toList.take E.nf := by
    have h2 : (E.P.funcs.toList.take E.nf)[f]? = some fn := by
      rw [List.getElem?_take_of_lt hnf]
      simpa using hf
    exact List.mem_of_getElem? h2
  have := List.all_eq_true.1 h fn hm
  rw [hb] at this
  exact okCode_ok hg this

theorem info_mem {P : Program} {n t : Nat} {i : TypeInfo} (hn : n ≤ P.types.size) (ht : t < n) (h : P.info? t = some i) : i ∈ P.types.toList := by
  have hlt : t < P.types.size := by omega
  have e : P.types[t]? = some i := by
    have : P.info? t = if t < P.types.size then P.types[t]? else Made.infoAt P.toTables Made.depth t := rfl
    rw [this, if_pos hlt] at h
    exact h
  have := Array.mem_of_getElem? e
  simpa using this

noncomputable def okZeros (l : List TypeInfo) : Bool := l.all fun i => match i.zero with | some z => plainV 40 z | none => true
theorem zp_of {P : Program} {n : Nat} (hn : n ≤ P.types.size) (h : okZeros P.types.toList = true) : ZP P n := by
  intro t i z ht hi hz κ
  have := List.all_eq_true.1 h i (info_mem hn ht hi)
  rw [hz] at this
  exact plainV_ok _ _ this κ

noncomputable def okNames (l : List Func) : Bool := l.all fun fn => !(fn.name == "runtime.NumGoroutine")
theorem num_of {P : Program} (h : okNames P.funcs.toList = true) : ∀ (f : FuncId) (fn : Func), P.funcs[f]? = some fn → (fn.name == "runtime.NumGoroutine") = false := by
  intro f fn hf
  have hm : fn ∈ P.funcs.toList := by
    have := Array.mem_of_getElem? hf
    simpa using this
  have := List.all_eq_true.1 h fn hm
  simpa using this
end Go.Sh

namespace Go.Sh
open Go Go.Extern

section
variable {P : Program} {κ : K}

theorem tr_loadBytes : ∀ (n : Nat) {κ : K} {a a' : Addr} (acc : ByteArray), AR κ a a' → TR P (fun _ x y => x = y) κ (Extern.Bytes.loadBytes a n acc) (Extern.Bytes.loadBytes a' n acc)
  | 0, κ, a, a', acc, _ => .pure rfl
  | n + 1, κ, a, a', acc, h => by
    unfold Extern.Bytes.loadBytes
    refine TR.bind (tr_load h) ?_
    intro κ1 v v' hk hv
    cases hv <;> first | exact tr_stuckR | skip
    rename_i k b
    cases k <;> first | exact tr_stuckR | skip
    exact tr_loadBytes n _ ((h.mono hk).add 1)

theorem tr_bytesOf {v v' : Value} (h : V κ v v') : TR P (fun _ x y => x = y) κ (Extern.Bytes.bytesOf v) (Extern.Bytes.bytesOf v') := by
  cases h <;> first | exact tr_stuckR | exact .pure rfl | skip
  · rename_i hk _ _
    exact tr_loadBytes _ _ (AR.of_ptr (.ptr hk))

theorem tr_asByte {v v' : Value} (h : V κ v v') : TR P (fun _ x y => x = y) κ (Extern.Bytes.asByte v) (Extern.Bytes.asByte v') := by
  cases h <;> first | exact tr_stuckR | skip
  rename_i k b
  cases k <;> first | exact tr_stuckR | exact .pure rfl

theorem tr_same {args args' : Array Value} (h : VA κ args args') : TR P V κ (AbiNoEscape.same args) (AbiNoEscape.same args') := by
  obtain ⟨l⟩ := args
  obtain ⟨l'⟩ := args'
  unfold VA at h
  simp only at h
  cases h with
  | nil => exact tr_stuckR
  | cons hx ht =>
    cases ht with
    | nil => exact .pure hx
    | cons hy ht =>
      cases ht with
      | cons _ _ => exact tr_stuckR
      | nil =>
        exact tr_stuckR

theorem tr_indexByte {args args' : Array Value} (h : VA κ args args') : TR P V κ (BytealgIndexByte.indexByte args) (BytealgIndexByte.indexByte args') := by
  obtain ⟨l⟩ := args
  obtain ⟨l'⟩ := args'
  unfold VA at h
  simp only at h
  cases h with
  | nil => exact tr_stuckR
  | cons hx ht =>
    cases ht with
    | nil => exact tr_stuckR
    | cons hy ht =>
      cases ht with
      | cons _ _ => exact tr_stuckR
      | nil =>
        unfold BytealgIndexByte.indexByte
        refine TR.bind (tr_bytesOf hx) ?_
        rintro κ1 b _ hk rfl
        refine TR.bind (tr_asByte (hy.mono hk)) ?_
        rintro κ2 c _ hk2 rfl
        split
        · exact tr_goInt
        · exact tr_goInt

theorem tr_count {args args' : Array Value} (h : VA κ args args') : TR P V κ (BytealgCount.count args) (BytealgCount.count args') := by
  obtain ⟨l⟩ := args
  obtain ⟨l'⟩ := args'
  unfold VA at h
  simp only at h
  cases h with
  | nil => exact tr_stuckR
  | cons hx ht =>
    cases ht with
    | nil => exact tr_stuckR
    | cons hy ht =>
      cases ht with
      | cons _ _ => exact tr_stuckR
      | nil =>
        unfold BytealgCount.count
        refine TR.bind (tr_bytesOf hx) ?_
        rintro κ1 b _ hk rfl
        refine TR.bind (tr_asByte (hy.mono hk)) ?_
        rintro κ2 c _ hk2 rfl
        exact tr_goInt

theorem tr_compare {args args' : Array Value} (h : VA κ args args') : TR P V κ (BytealgCompare.compare args) (BytealgCompare.compare args') := by
  obtain ⟨l⟩ := args
  obtain ⟨l'⟩ := args'
  unfold VA at h
  simp only at h
  cases h with
  | nil => exact tr_stuckR
  | cons hx ht =>
    cases ht with
    | nil => exact tr_stuckR
    | cons hy ht =>
      cases ht with
      | cons _ _ => exact tr_stuckR
      | nil =>
        unfold BytealgCompare.compare
        refine TR.bind (tr_bytesOf hx) ?_
        rintro κ1 b _ hk rfl
        refine TR.bind (tr_bytesOf (hy.mono hk)) ?_
        rintro κ2 c _ hk2 rfl
        exact tr_goInt
end

/-- The externs by number: what each is for the shadow. -/
inductive EK where
  | same | indexByte | count | compare
  | noZero (elem : TypeId)

noncomputable def EK.ext : EK → SExt
  | .same => .sem AbiNoEscape.same
  | .indexByte => .sem BytealgIndexByte.indexByte
  | .count => .sem BytealgCount.count
  | .compare => .sem BytealgCompare.compare
  | .noZero t => .makeNoZero t

noncomputable def lookupEK : List (Nat × EK) → Nat → Option SExt
  | [], _ => none
  | (f, k) :: r, g => match Nat.beq f g with
    | true => some k.ext
    | false => lookupEK r g

noncomputable def mkEnv (P : Program) (l : List (Nat × EK)) (n nf : Nat) : Env := ⟨P, lookupEK l, n, nf⟩

theorem lookup_some {l : List (Nat × EK)} {g : Nat} {x : SExt} (h : lookupEK l g = some x) : ∃ k, (g, k) ∈ l ∧ x = k.ext := by
  induction l with
  | nil => simp [lookupEK] at h
  | cons y l ih =>
    obtain ⟨f, k⟩ := y
    simp only [lookupEK] at h
    cases hb : Nat.beq f g with
    | true =>
      rw [hb] at h
      simp only [Option.some.injEq] at h
      obtain rfl := Nat.eq_of_beq_eq_true hb
      exact ⟨k, by simp, h.symm⟩
    | false =>
      rw [hb] at h
      obtain ⟨k', h1, h2⟩ := ih h
      exact ⟨k', List.mem_cons_of_mem _ h1, h2⟩

/-- What is to be shown of each extern of the list. -/
def EKOK (P : Program) (f : Nat) (k : EK) : Prop :=
  ∃ (fn : Func), P.funcs[f]? = some fn ∧ (fn.name == "runtime.NumGoroutine") = false ∧ fn.body.isNone = true ∧ Extern.findNext fn = none ∧
    match k with
    | .same => Extern.find fn = some AbiNoEscape.same
    | .indexByte => Extern.find fn = some BytealgIndexByte.indexByte
    | .count => Extern.find fn = some BytealgCount.count
    | .compare => Extern.find fn = some BytealgCompare.compare
    | .noZero elem => ∃ ps t, Extern.find fn = some (BytealgMakeNoZero.makeNoZero ps #[t]) ∧ P.underlying t = some (.slice elem)

theorem ext_of {P : Program} {l : List (Nat × EK)} {n nf : Nat} (h : ∀ x ∈ l, EKOK P x.1 x.2) : ∀ f x, (mkEnv P l n nf).ext f = some x → ExtOK P f x := by
  intro f x hx
  obtain ⟨k, hm, rfl⟩ := lookup_some hx
  obtain ⟨fn, h1, h2, h3, h4, h5⟩ := h (f, k) hm
  cases k with
  | same => exact ⟨fn, _, h1, h2, h3, h4, h5, fun κ args args' ha => tr_same ha⟩
  | indexByte => exact ⟨fn, _, h1, h2, h3, h4, h5, fun κ args args' ha => tr_indexByte ha⟩
  | count => exact ⟨fn, _, h1, h2, h3, h4, h5, fun κ args args' ha => tr_count ha⟩
  | compare => exact ⟨fn, _, h1, h2, h3, h4, h5, fun κ args args' ha => tr_compare ha⟩
  | noZero elem =>
    obtain ⟨ps, t, h5, h6⟩ := h5
    exact ⟨fn, _, h1, h2, h3, h4, h5, ps, t, rfl, h6⟩

noncomputable def okFields (P : Program) (n : Nat) (l : List TypeInfo) : Bool := l.all fun i => match i.desc with
  | .struct fs => fs.toList.all fun f => (P.info? f.type).isSome
  | .named _ u => Nat.blt u n
  | _ => true

theorem fp_of {P : Program} {n : Nat} (hn : n ≤ P.types.size) (h : okFields P n P.types.toList = true) : FP P n := by
  intro t fields ht hu f hf
  have key : ∀ i ∈ P.types.toList, i.desc = .struct fields → ∃ x, P.info? f.type = some x := by
    intro i hi hd
    have := List.all_eq_true.1 h i hi
    rw [hd] at this
    exact Option.isSome_iff_exists.1 (List.all_eq_true.1 this f hf)
  unfold Program.underlying at hu
  cases hi : P.info? t with
  | none => rw [hi] at hu; simp at hu
  | some i =>
    rw [hi] at hu
    have hm := info_mem hn ht hi
    obtain ⟨desc, str, size, bytes, hp, al, fal, z, cmp, ms⟩ := i
    cases desc <;> simp only [Option.some.injEq, reduceCtorEq] at hu
    case named nm u =>
      obtain ⟨j, hj, hjd⟩ := Option.map_eq_some_iff.1 hu
      have hun := List.all_eq_true.1 h _ hm
      have hun' : u < n := by simpa [Nat.blt_eq] using hun
      exact key j (info_mem hn hun' hj) hjd
    case struct fs =>
      exact key _ hm (by simp only [hu])

theorem good_of {P : Program} {l : List (Nat × EK)} {n nf : Nat} (hn : Nat.ble n P.types.size = true) (h1 : okZeros P.types.toList = true) (h2 : okFields P n P.types.toList = true) (h3 : P.follows .mixedOrders = true) (h4 : okNames P.funcs.toList = true) (h5 : ∀ x ∈ l, EKOK P x.1 x.2) :
    Good (mkEnv P l n nf) := ⟨zp_of (Nat.le_of_ble_eq_true hn) h1, fp_of (Nat.le_of_ble_eq_true hn) h2, h3, num_of h4, ext_of h5⟩
end Go.Sh

namespace Go.Sh
open Go

/-! The same functions once more, in a form in which the kernel reckons them faster: every way out of a case is a closed function. -/

noncomputable def oget (v : Option Value) : Value := Option.rec (motive := fun _ => Value) undef (fun v => v) v

noncomputable def feval (a : SAct) (x : Operand) : Value :=
  Operand.rec (motive := fun _ => SAct → Value) (fun t a => oget (a.t.get t)) (fun v _ => v) (fun g _ => .pointer (some ⟨g, 0, none⟩)) (fun f _ => .func (.func f) #[] #[]) x a

theorem feval_eq (a : SAct) (x : Operand) : feval a x = a.eval x := by
  cases x with
  | tmp t => show oget (a.t.get t) = (a.t.get t).getD undef; cases a.t.get t <;> rfl
  | _ => rfl

noncomputable def fput (a : SAct) (dst : Option Tmp) (v : Value) : Option SAct :=
  Option.rec (motive := fun _ => SAct → Value → Option SAct) (fun a _ => some a)
    (fun d a v => SAct.rec (motive := fun _ => Nat → Value → Option SAct)
      (fun t n ms d v => Bool.rec (motive := fun _ => T Value → Nat → List Nat → Nat → Value → Option SAct) (fun _ _ _ _ _ => none) (fun t n ms d v => some ⟨t.set bits d v, n, ms⟩) (Nat.blt d n) t n ms d v) a d v) dst a v

theorem fput_eq (a : SAct) (dst : Option Tmp) (v : Value) : fput a dst v = a.put dst v := by
  obtain ⟨t, n, ms⟩ := a
  cases dst with
  | none => rfl
  | some d =>
    show @Bool.rec (fun _ => T Value → Nat → List Nat → Nat → Value → Option SAct) _ _ (Nat.blt d n) t n ms d v = bif Nat.blt d n then _ else _
    cases Nat.blt d n <;> rfl

/-- The cases of a value that are wanted most. -/
noncomputable def vrec {β : Type} (fInt : IntKind → Int → β) (fStr : ByteArray → β) (fBool : Bool → β) (other : Value → β) (v : Value) : β :=
  Value.rec (motive_1 := fun _ => β) (motive_2 := fun _ => PUnit) (motive_3 := fun _ => PUnit)
    (fun b => fBool b) (fun k n => fInt k n) (fun k b => other (.float k b)) (fun k a b => other (.complex k a b)) (fun s => fStr s) (fun a => other (.pointer a)) (fun a l c => other (.slice a l c))
    (fun r => other (.map r)) (fun r => other (.chan r)) (fun fn f c _ _ => other (.func fn f c)) (other .nilFunc) (fun t v _ => other (.iface t v)) (other .nilIface) (fun c _ => other (.agg c)) (fun c _ => other (.tuple c))
    (fun _ _ => ⟨⟩) ⟨⟩ (fun _ _ _ _ => ⟨⟩) v

noncomputable def fint (op : BinOp) (k : IntKind) (x y : Int) : Option Value :=
  BinOp.rec (motive := fun _ => IntKind → Int → Int → Option Value)
    (fun k x y => some (.int k (swrap k (x + y)))) (fun k x y => some (.int k (swrap k (x - y))))
    (fun _ _ _ => none) (fun _ _ _ => none) (fun _ _ _ => none) (fun _ _ _ => none) (fun _ _ _ => none) (fun _ _ _ => none) (fun _ _ _ => none) (fun _ _ _ => none) (fun _ _ _ => none)
    (fun _ x y => some (.bool (ibeq x y))) (fun _ x y => some (.bool (!ibeq x y))) (fun _ x y => some (.bool (iblt x y))) (fun _ x y => some (.bool (!iblt y x))) (fun _ x y => some (.bool (iblt y x))) (fun _ x y => some (.bool (!iblt x y)))
    op k x y

theorem fint_eq (op : BinOp) (k : IntKind) (x y : Int) : fint op k x y = sint op k x y := by cases op <;> rfl

abbrev BinR := Env → Oper → SAct → BinOp → TypeId → Operand → Operand → SW → Option (Value × SW)

noncomputable def fkeepOr (r : Option Value) (E : Env) (o : Oper) (a : SAct) (σ : SW) : Option (Value × SW) :=
  Option.rec (motive := fun _ => Env → Oper → SAct → SW → Option (Value × SW)) (fun E o a σ => sgen E o a σ) (fun v _ _ _ σ => some (v, σ)) r E o a σ

noncomputable def fkeep (r : Option Value) (σ : SW) : Option (Value × SW) :=
  Option.rec (motive := fun _ => SW → Option (Value × SW)) (fun _ => none) (fun v σ => some (v, σ)) r σ

/-- The first operand is an integer. -/
noncomputable def fbinInt (y : Value) (k : IntKind) (m : Int) (op : BinOp) (E : Env) (o : Oper) (a : SAct) (t : TypeId) (ox oy : Operand) (σ : SW) : Option (Value × SW) :=
  vrec (β := IntKind → Int → BinOp → Env → Oper → SAct → TypeId → Operand → Operand → SW → Option (Value × SW))
    (fun k' n k m op E o a _ _ _ σ => fkeepOr (Bool.rec (motive := fun _ => BinOp → IntKind → Int → Int → Option Value) (fun _ _ _ _ => none) (fun op k m n => fint op k m n) (kbeq k k') op k m n) E o a σ)
    (fun _ _ _ op E o a t ox oy σ => sbinOp E o a op t ox oy σ) (fun _ _ _ op E o a t ox oy σ => sbinOp E o a op t ox oy σ) (fun _ _ _ op E o a t ox oy σ => sbinOp E o a op t ox oy σ)
    y k m op E o a t ox oy σ

noncomputable def fbinStr (y : Value) (s : ByteArray) (op : BinOp) (E : Env) (o : Oper) (a : SAct) (t : TypeId) (ox oy : Operand) (σ : SW) : Option (Value × SW) :=
  vrec (β := ByteArray → BinOp → Env → Oper → SAct → TypeId → Operand → Operand → SW → Option (Value × SW))
    (fun _ _ _ op E o a t ox oy σ => sbinOp E o a op t ox oy σ)
    (fun s' s op _ _ _ _ _ _ σ => fkeep (sstring op s s') σ)
    (fun _ _ op E o a t ox oy σ => sbinOp E o a op t ox oy σ) (fun _ _ op E o a t ox oy σ => sbinOp E o a op t ox oy σ)
    y s op E o a t ox oy σ

noncomputable def fbin (E : Env) (o : Oper) (a : SAct) (op : BinOp) (t : TypeId) (ox oy : Operand) (σ : SW) : Option (Value × SW) :=
  vrec (β := Value → BinOp → Env → Oper → SAct → TypeId → Operand → Operand → SW → Option (Value × SW))
    (fun k m y op E o a t ox oy σ => fbinInt y k m op E o a t ox oy σ)
    (fun s y op E o a t ox oy σ => fbinStr y s op E o a t ox oy σ)
    (fun _ _ op E o a t ox oy σ => sbinOp E o a op t ox oy σ) (fun _ _ op E o a t ox oy σ => sbinOp E o a op t ox oy σ)
    (feval a ox) (feval a oy) op E o a t ox oy σ

theorem fkeepOr_eq {r : Option Value} {E : Env} {o : Oper} {a : SAct} {σ : SW} : fkeepOr r E o a σ = match r with | some v => some (v, σ) | none => sgen E o a σ := by cases r <;> rfl
theorem fkeep_eq {r : Option Value} {σ : SW} : fkeep r σ = match r with | some v => some (v, σ) | none => none := by cases r <;> rfl

theorem fbin_eq (E : Env) (o : Oper) (a : SAct) (op : BinOp) (t : TypeId) (ox oy : Operand) (σ : SW) : fbin E o a op t ox oy σ = sbinOp E o a op t ox oy σ := by
  unfold fbin
  rw [feval_eq, feval_eq]
  cases hx : a.eval ox with
  | int k m =>
    show fbinInt (a.eval oy) k m op E o a t ox oy σ = _
    unfold fbinInt
    cases hy : a.eval oy with
    | int k' n =>
      show fkeepOr (Bool.rec (motive := fun _ => BinOp → IntKind → Int → Int → Option Value) _ _ (kbeq k k') op k m n) E o a σ = _
      rw [fkeepOr_eq]
      unfold sbinOp
      rw [hx, hy]
      simp only
      generalize kbeq k k' = b
      cases b
      · rfl
      · show (match fint op k m n with | some v => some (v, σ) | none => sgen E o a σ) = _
        rw [fint_eq]
        cases sint op k m n <;> rfl
    | _ => rfl
  | string s =>
    show fbinStr (a.eval oy) s op E o a t ox oy σ = _
    unfold fbinStr
    cases hy : a.eval oy with
    | string s' =>
      show fkeep (sstring op s s') σ = _
      rw [fkeep_eq]
      unfold sbinOp
      rw [hx, hy]
      simp only
      cases sstring op s s' <;> rfl
    | _ => rfl
  | _ => rfl

abbrev OpR := Env → SCall → Oper → SAct → SW → Option (Value × SW)

noncomputable def fpick (c : Value) (x y : Operand) (a : SAct) (σ : SW) : Option (Value × SW) :=
  vrec (β := Operand → Operand → SAct → SW → Option (Value × SW)) (fun _ _ _ _ _ _ => none) (fun _ _ _ _ _ => none)
    (fun b x y a σ => Bool.rec (motive := fun _ => Operand → Operand → SAct → SW → Option (Value × SW)) (fun _ y a σ => some (feval a y, σ)) (fun x _ a σ => some (feval a x, σ)) b x y a σ) (fun _ _ _ _ _ => none) c x y a σ

noncomputable def fextract (v : Value) (i : Nat) (σ : SW) : Option (Value × SW) :=
  Value.rec (motive_1 := fun _ => Nat → SW → Option (Value × SW)) (motive_2 := fun _ => PUnit) (motive_3 := fun _ => PUnit)
    (fun _ _ _ => none) (fun _ _ _ _ => none) (fun _ _ _ _ => none) (fun _ _ _ _ _ => none) (fun _ _ _ => none) (fun _ _ _ => none) (fun _ _ _ _ _ => none)
    (fun _ _ _ => none) (fun _ _ _ => none) (fun _ _ _ _ _ _ _ => none) (fun _ _ => none) (fun _ _ _ _ _ => none) (fun _ _ => none) (fun _ _ _ _ => none) (fun vs _ i σ => skeep σ (vs.toList[i]?))
    (fun _ _ => ⟨⟩) ⟨⟩ (fun _ _ _ _ => ⟨⟩) v i σ

noncomputable def fone (r : Option SW) : Option (Value × SW) :=
  Option.rec (motive := fun _ => Option (Value × SW)) none (fun σ => some (undef, σ)) r

noncomputable def fsop (E : Env) (C : SCall) (o : Oper) (a : SAct) (σ : SW) : Option (Value × SW) :=
  Op.rec (motive := fun _ => OpR)
    (fun x _ _ _ a σ => some (feval a x, σ)) -- move
    (fun x _ _ _ a σ => some (feval a x, σ)) -- assign
    (fun c x y _ _ _ a σ => fpick (feval a c) x y a σ) -- pick
    (fun t E _ _ _ σ => spush σ (salloc E t σ.n)) -- alloc
    (fun t x _ _ _ a σ => spush σ (sbox t (feval a x) σ.n)) -- box
    (fun t ps E _ _ a σ => skeep σ (sbuild E t (sparts a ps))) -- build
    (fun t len ps E _ _ a σ => spush σ (sbuildSlice E t len (sparts a ps) σ.n)) -- buildSlice
    (fun _ _ _ _ _ _ _ _ _ => none) -- insert
    (fun t x E _ _ a σ => sload E t (feval a x) σ) -- load
    (fun t x v E _ _ a σ => fone (sstore E t (feval a x) (feval a v) σ)) -- store
    (fun _ _ _ _ _ _ => none) -- ready
    (fun _ _ _ _ _ _ => none) -- waits
    (fun x _ _ _ a σ => skeep σ (snil (feval a x))) -- nilCheck
    (fun op t x y _ E _ o a σ => fbin E o a op t x y σ) -- binOp
    (fun _ _ _ E _ o a σ => sgen E o a σ) -- unOp
    (fun s d x E _ _ a σ => sconvert E s d (feval a x) σ) -- convert
    (fun _ _ _ _ _ _ _ => none) -- sliceToArrayPointer
    (fun t x E _ _ a σ => skeep σ (siface E t (feval a x))) -- makeInterface
    (fun _ _ _ E C o a σ => sop E C o a σ) -- makeFunc
    (fun t r E _ _ a σ => spush σ (smakeMap E t (r.map a.eval) σ.n)) -- makeMap
    (fun _ _ _ _ _ _ _ => none) -- makeChan
    (fun t l c E _ _ a σ => spush σ (smake E t (feval a l) (feval a c) σ.n)) -- makeSlice
    (fun t x lo hi mx E _ _ a σ => sslice E t (feval a x) (lo.map a.eval) (hi.map a.eval) (mx.map a.eval) σ) -- slice
    (fun s x f E _ _ a σ => skeep σ (sfieldAddr E s (feval a x) f)) -- fieldAddr
    (fun s x f E _ _ a σ => skeep σ (sfield E s (feval a x) f)) -- field
    (fun t x i E _ _ a σ => skeep σ (sindexAddr E t (feval a x) (feval a i))) -- indexAddr
    (fun t x i E _ _ a σ => skeep σ (sindex E t (feval a x) (feval a i))) -- index
    (fun t x k ok E _ _ a σ => skeep σ (slookup E t (feval a x) (feval a k) ok σ)) -- lookup
    (fun t m k v E _ _ a σ => fone (smapUpdate E t (feval a m) (feval a k) (feval a v) σ)) -- mapUpdate
    (fun _ _ _ _ _ _ _ _ => none) -- mapEntry
    (fun _ _ _ _ _ _ _ _ _ => none) -- entryStore
    (fun t x E _ _ a σ => srange0 E t (feval a x) σ) -- range
    (fun it b _ _ _ a σ => snext (feval a it) b σ) -- next
    (fun _ _ _ _ _ _ => none) -- entry
    (fun x _ t ok E _ _ a σ => skeep σ (sassert E (feval a x) t ok)) -- typeAssert
    (fun x i _ _ _ a σ => fextract (feval a x) i σ) -- extract
    (fun c E C o a σ => scallOp E C c o.type a σ) -- call
    (fun _ _ _ _ _ _ => none) (fun _ _ _ _ _ _ => none) (fun _ _ _ _ _ _ => none) (fun _ _ _ _ _ _ _ => none) (fun _ _ _ _ _ _ _ _ => none) (fun _ _ _ _ _ _ _ => none)
    o.op E C o a σ

theorem fone_eq {r : Option SW} : fone r = match r with | some σ => some (undef, σ) | none => none := by cases r <;> rfl

theorem fsop_eq (E : Env) (C : SCall) (o : Oper) (a : SAct) (σ : SW) : fsop E C o a σ = sop E C o a σ := by
  have hev : feval = SAct.eval := funext fun a => funext fun x => feval_eq a x
  unfold fsop
  cases h : o.op <;> first
    | (show fpick _ _ _ a σ = _
       unfold fpick sop
       rw [h, hev]
       simp only
       rename_i c x y
       cases a.eval c <;> first | rfl | (rename_i b; cases b <;> rfl))
    | (show fbin E o a _ _ _ _ σ = _
       rw [fbin_eq]; unfold sop; rw [h])
    | (show fone _ = _
       unfold sop; rw [h, hev]
       simp only
       first
         | (rename_i x1 x2 x3; cases sstore E x1 (a.eval x2) (a.eval x3) σ <;> rfl)
         | (rename_i x1 x2 x3 x4; cases smapUpdate E x1 (a.eval x2) (a.eval x3) (a.eval x4) σ <;> rfl))
    | rfl
    | (unfold sop; rw [h, hev]; done)
    | (show fextract _ _ σ = _
       unfold fextract sop
       rw [h, hev]
       simp only
       rename_i x i
       cases a.eval x <;> rfl)
    | (unfold sop; rw [h, hev]; rfl)

/-! ## Rows of operations -/
noncomputable def fwantB (v : Option Value) (want : Bool) : Bool :=
  Option.rec (motive := fun _ => Bool → Bool) (fun _ => false)
    (fun v want => vrec (β := Bool → Bool) (fun _ _ _ => false) (fun _ _ => false) (fun b want => b == want) (fun _ _ => false) v want) v want

noncomputable def fwanted (ops : Array Oper) (a : SAct) (g : Option (Nat × Bool)) : Bool :=
  Option.rec (motive := fun _ => Array Oper → SAct → Bool) (fun _ _ => true)
    (fun p ops a => fwantB (((ops[p.1]?).bind (·.dst)).bind a.t.get) p.2) g ops a

theorem fwanted_eq (ops : Array Oper) (a : SAct) (o : Oper) : fwanted ops a o.guard = swanted ops a o := by
  unfold fwanted swanted
  cases o.guard with
  | none => rfl
  | some p =>
    obtain ⟨j, want⟩ := p
    show fwantB (((ops[j]?).bind (·.dst)).bind a.t.get) want = match ((ops[j]?).bind (·.dst)).bind a.t.get with | some (.bool b) => b == want | _ => false
    cases ((ops[j]?).bind (·.dst)).bind a.t.get with
    | none => rfl
    | some v => cases v <;> rfl

abbrev OpsR := Env → SCall → Array Oper → SAct → SW → Option (SAct × SW)

/-- What was reckoned is laid down, and on. -/
noncomputable def flay (r : Option (Value × SW)) (dst : Option Tmp) (next : OpsR) (E : Env) (C : SCall) (ops : Array Oper) (a : SAct) : Option (SAct × SW) :=
  Option.rec (motive := fun _ => Option Tmp → OpsR → Env → SCall → Array Oper → SAct → Option (SAct × SW)) (fun _ _ _ _ _ _ => none)
    (fun p dst next E C ops a => Prod.rec (motive := fun _ => Option Tmp → OpsR → Env → SCall → Array Oper → SAct → Option (SAct × SW))
      (fun v σ dst next E C ops a => Option.rec (motive := fun _ => OpsR → Env → SCall → Array Oper → SW → Option (SAct × SW)) (fun _ _ _ _ _ => none)
        (fun a next E C ops σ => next E C ops a σ) (fput a dst v) next E C ops σ) p dst next E C ops a) r dst next E C ops a

noncomputable def fops (l : List Oper) (E : Env) (C : SCall) (ops : Array Oper) (a : SAct) (σ : SW) : Option (SAct × SW) :=
  List.rec (motive := fun _ => OpsR) (fun _ _ _ a σ => some (a, σ))
    (fun o _ next E C ops a σ => Bool.rec (motive := fun _ => Oper → OpsR → Env → SCall → Array Oper → SAct → SW → Option (SAct × SW))
      (fun o next E C ops a σ => flay (some (undef, σ)) o.dst next E C ops a)
      (fun o next E C ops a σ => flay (fsop E C o a σ) o.dst next E C ops a) (fwanted ops a o.guard) o next E C ops a σ) l E C ops a σ

theorem flay_eq (r : Option (Value × SW)) (dst : Option Tmp) (next : OpsR) (E : Env) (C : SCall) (ops : Array Oper) (a : SAct) :
    flay r dst next E C ops a = match r with | some (v, σ) => (match a.put dst v with | some a' => next E C ops a' σ | none => none) | none => none := by
  cases r with
  | none => rfl
  | some p =>
    obtain ⟨v, σ⟩ := p
    show Option.rec (motive := fun _ => OpsR → Env → SCall → Array Oper → SW → Option (SAct × SW)) _ _ (fput a dst v) next E C ops σ = _
    rw [fput_eq]
    simp only
    cases a.put dst v <;> rfl

theorem fops_eq (E : Env) (C : SCall) (ops : Array Oper) : ∀ (l : List Oper) (a : SAct) (σ : SW), fops l E C ops a σ = sops E C ops l a σ := by
  intro l
  induction l with
  | nil => intro a σ; rfl
  | cons o l ih =>
    intro a σ
    show @Bool.rec (fun _ => Oper → OpsR → Env → SCall → Array Oper → SAct → SW → Option (SAct × SW))
      (fun o next E C ops a σ => flay (some (undef, σ)) o.dst next E C ops a)
      (fun o next E C ops a σ => flay (fsop E C o a σ) o.dst next E C ops a) (fwanted ops a o.guard) o (fops l) E C ops a σ = _
    rw [fwanted_eq]
    unfold sops sstep
    cases swanted ops a o with
    | false =>
      show flay (some (undef, σ)) o.dst (fops l) E C ops a = _
      rw [flay_eq]
      simp only
      cases a.put o.dst undef with
      | none => rfl
      | some a' => exact ih a' σ
    | true =>
      show flay (fsop E C o a σ) o.dst (fops l) E C ops a = _
      rw [flay_eq, fsop_eq]
      simp only
      cases sop E C o a σ with
      | none => rfl
      | some p =>
        obtain ⟨v, σ'⟩ := p
        simp only
        cases a.put o.dst v with
        | none => rfl
        | some a' => exact ih a' σ'

noncomputable def fregion (draw : Bool) (E : Env) (C : SCall) (ops : Array Oper) (a : SAct) (σ : SW) : SRes :=
  Bool.rec (motive := fun _ => Env → SCall → Array Oper → SAct → SW → SRes)
    (fun E C ops a σ => Option.rec (motive := fun _ => SRes) none (fun p => some (.normal, p)) (fops ops.toList E C ops a σ))
    (fun E C ops a σ => sregion E C ops true a σ) draw E C ops a σ

theorem fregion_eq (draw : Bool) (E : Env) (C : SCall) (ops : Array Oper) (a : SAct) (σ : SW) : fregion draw E C ops a σ = sregion E C ops draw a σ := by
  cases draw with
  | true => rfl
  | false =>
    show Option.rec (motive := fun _ => SRes) none (fun p => some (.normal, p)) (fops ops.toList E C ops a σ) = _
    rw [fops_eq]
    unfold sregion
    simp only
    cases sops E C ops ops.toList a σ with
    | none => rfl
    | some p => obtain ⟨a', σ'⟩ := p; rfl

/-! ## Code -/
abbrev CodeR := Env → SCall → Nat → Option Nat → Option Nat → SAct → SW → SRes

/-- On, if it ended so. -/
noncomputable def fthen (r : SRes) (next : CodeR) (E : Env) (C : SCall) (K : Nat) (rd : Option Nat) : SRes :=
  Option.rec (motive := fun _ => CodeR → Env → SCall → Nat → Option Nat → SRes) (fun _ _ _ _ _ => none)
    (fun p next E C K rd => Prod.rec (motive := fun _ => CodeR → Env → SCall → Nat → Option Nat → SRes)
      (fun e q next E C K rd => SExit.rec (motive := fun _ => SAct × SW → CodeR → Env → SCall → Nat → Option Nat → SRes)
        (fun q next E C K rd => Prod.rec (motive := fun _ => CodeR → Env → SCall → Nat → Option Nat → SRes) (fun a σ next E C K rd => next E C K rd none a σ) q next E C K rd)
        (fun id q _ _ _ _ _ => some (.exit id, q)) (fun l q _ _ _ _ _ => some (.goto l, q)) (fun q _ _ _ _ _ => some (.ret, q)) e q next E C K rd) p next E C K rd) r next E C K rd

theorem fthen_eq (r : SRes) (next : CodeR) (E : Env) (C : SCall) (K : Nat) (rd : Option Nat) :
    fthen r next E C K rd = match r with | some (.normal, a, σ) => next E C K rd none a σ | r => r := by
  cases r with
  | none => rfl
  | some p =>
    obtain ⟨e, a, σ⟩ := p
    cases e <;> rfl

noncomputable def funblock (r : SRes) (id : Nat) : SRes :=
  Option.rec (motive := fun _ => Nat → SRes) (fun _ => none)
    (fun p id => Prod.rec (motive := fun _ => Nat → SRes)
      (fun e q id => SExit.rec (motive := fun _ => SAct × SW → Nat → SRes) (fun q _ => some (.normal, q))
        (fun id' q id => Bool.rec (motive := fun _ => Nat → SAct × SW → SRes) (fun id' q => some (.exit id', q)) (fun _ q => some (.normal, q)) (Nat.beq id' id) id' q)
        (fun l q _ => some (.goto l, q)) (fun q _ => some (.ret, q)) e q id) p id) r id

theorem funblock_eq (r : SRes) (id : Nat) : funblock r id = match r with | some (.exit id', a, σ) => (bif Nat.beq id' id then some (.normal, a, σ) else some (.exit id', a, σ)) | r => r := by
  cases r with
  | none => rfl
  | some p =>
    obtain ⟨e, a, σ⟩ := p
    cases e <;> first
      | rfl
      | (rename_i id'
         show @Bool.rec (fun _ => Nat → SAct × SW → SRes) _ _ (Nat.beq id' id) id' (a, σ) = bif Nat.beq id' id then _ else _
         cases Nat.beq id' id <;> rfl)

noncomputable def floop (k : Nat) (body : CodeR) (E : Env) (C : SCall) (K : Nat) (rd : Option Nat) (a : SAct) (σ : SW) : SRes :=
  Nat.rec (motive := fun _ => CodeR → Env → SCall → Nat → Option Nat → SAct → SW → SRes) (fun _ _ _ _ _ _ _ => none)
    (fun _ ih body E C K rd a σ => fthen (body E C K rd none a σ) (fun E C K rd _ a σ => ih body E C K rd a σ) E C K rd) k body E C K rd a σ

theorem floop_eq (body : CodeR) (E : Env) (C : SCall) (K : Nat) (rd : Option Nat) : ∀ (k : Nat) (a : SAct) (σ : SW), floop k body E C K rd a σ = sloop k (body E C K rd none) a σ := by
  intro k
  induction k with
  | zero => intro a σ; rfl
  | succ k ih =>
    intro a σ
    show fthen (body E C K rd none a σ) (fun E C K rd _ a σ => floop k body E C K rd a σ) E C K rd = _
    rw [fthen_eq]
    unfold sloop
    cases body E C K rd none a σ with
    | none => rfl
    | some p =>
      obtain ⟨e, a', σ'⟩ := p
      cases e <;> first | rfl | exact ih a' σ'

noncomputable def fcond (v : Value) (x y : CodeR) (E : Env) (C : SCall) (K : Nat) (rd : Option Nat) (a : SAct) (σ : SW) : SRes :=
  vrec (β := CodeR → CodeR → Env → SCall → Nat → Option Nat → SAct → SW → SRes) (fun _ _ _ _ _ _ _ _ _ _ => none) (fun _ _ _ _ _ _ _ _ _ => none)
    (fun b x y E C K rd a σ => Bool.rec (motive := fun _ => CodeR → CodeR → Env → SCall → Nat → Option Nat → SAct → SW → SRes)
      (fun _ y E C K rd a σ => y E C K rd none a σ) (fun x _ E C K rd a σ => x E C K rd none a σ) b x y E C K rd a σ) (fun _ _ _ _ _ _ _ _ _ => none) v x y E C K rd a σ

/-- From the start of a code; else as ever. -/
noncomputable def ffrom (fr : Option Nat) (run : Env → SCall → Nat → Option Nat → SAct → SW → SRes) (E : Env) (C : SCall) (K : Nat) (rd : Option Nat) (a : SAct) (σ : SW) : SRes :=
  Option.rec (motive := fun _ => (Env → SCall → Nat → Option Nat → SAct → SW → SRes) → Env → SCall → Nat → Option Nat → SAct → SW → SRes)
    (fun run E C K rd a σ => run E C K rd a σ) (fun _ _ _ _ _ _ _ _ => none) fr run E C K rd a σ

noncomputable def fcode (c : Code) : CodeR :=
  Code.rec (motive := fun _ => CodeR)
    (fun _ _ _ _ fr a σ => Option.rec (motive := fun _ => SAct → SW → SRes) (fun a σ => some (.normal, a, σ)) (fun _ _ _ => none) fr a σ) -- skip
    (fun _ ops draw E C _ _ fr a σ => Option.rec (motive := fun _ => Bool → Env → SCall → Array Oper → SAct → SW → SRes) (fun draw E C ops a σ => fregion draw E C ops a σ) (fun _ _ _ _ _ _ _ => none) fr draw E C ops a σ) -- region
    (fun x y runx runy E C K rd fr a σ => Option.rec (motive := fun _ => Code → Code → CodeR → CodeR → Env → SCall → Nat → Option Nat → SAct → SW → SRes)
      (fun _ _ runx runy E C K rd a σ => fthen (runx E C K rd none a σ) runy E C K rd)
      (fun l x y _ _ E C K rd a σ => scode E C K rd (.seq x y) (some l) a σ) fr x y runx runy E C K rd a σ) -- seq
    (fun c _ _ runx runy E C K rd fr a σ => Option.rec (motive := fun _ => Operand → CodeR → CodeR → Env → SCall → Nat → Option Nat → SAct → SW → SRes)
      (fun c runx runy E C K rd a σ => fcond (feval a c) runx runy E C K rd a σ) (fun _ _ _ _ _ _ _ _ _ _ => none) fr c runx runy E C K rd a σ) -- cond
    (fun id _ run E C K rd fr a σ => Option.rec (motive := fun _ => Nat → CodeR → Env → SCall → Nat → Option Nat → SAct → SW → SRes)
      (fun id run E C K rd a σ => funblock (run E C K rd none a σ) id) (fun _ _ _ _ _ _ _ _ _ => none) fr id run E C K rd a σ) -- block
    (fun _ run E C K rd fr a σ => Option.rec (motive := fun _ => CodeR → Env → SCall → Nat → Option Nat → SAct → SW → SRes)
      (fun run E C K rd a σ => floop K run E C K rd a σ) (fun _ _ _ _ _ _ _ _ => none) fr run E C K rd a σ) -- loop
    (fun f ps as bd _ _ E C K rd fr a σ => scode E C K rd (.rangeFunc f ps as bd) fr a σ) -- rangeFunc
    (fun id _ _ _ _ fr a σ => Option.rec (motive := fun _ => Nat → SAct → SW → SRes) (fun id a σ => some (.exit id, a, σ)) (fun _ _ _ _ => none) fr id a σ) -- exit
    (fun c run E C K rd fr a σ => Option.rec (motive := fun _ => Code → CodeR → Env → SCall → Nat → Option Nat → SAct → SW → SRes)
      (fun c run E C K rd a σ => sscope (hasLabel c) K (run E C K rd) none a σ) (fun _ _ _ _ _ _ _ _ _ => none) fr c run E C K rd a σ) -- scope
    (fun l E C K rd fr a σ => scode E C K rd (.label l) fr a σ) -- label
    (fun l _ _ _ _ fr a σ => Option.rec (motive := fun _ => Nat → SAct → SW → SRes) (fun l a σ => some (.goto l, a, σ)) (fun _ _ _ _ => none) fr l a σ) -- goto
    (fun _ _ _ _ fr a σ => Option.rec (motive := fun _ => SAct → SW → SRes) (fun a σ => some (.ret, a, σ)) (fun _ _ _ => none) fr a σ) -- ret
    (fun _ _ _ _ _ _ _ _ => none) -- refuse
    c

theorem fcode_eq (c : Code) : ∀ (E : Env) (C : SCall) (K : Nat) (rd fr : Option Nat) (a : SAct) (σ : SW), fcode c E C K rd fr a σ = scode E C K rd c fr a σ := by
  induction c with
  | skip => intro E C K rd fr a σ; cases fr <;> rfl
  | region id ops draw =>
    intro E C K rd fr a σ
    cases fr with
    | none => exact fregion_eq draw E C ops a σ
    | some _ => rfl
  | seq x y ix iy =>
    intro E C K rd fr a σ
    cases fr with
    | none =>
      show fthen (fcode x E C K rd none a σ) (fcode y) E C K rd = _
      rw [fthen_eq, ix]
      simp only [scode]
      cases scode E C K rd x none a σ with
      | none => rfl
      | some p =>
        obtain ⟨e, a', σ'⟩ := p
        cases e <;> first | rfl | exact iy E C K rd none a' σ'
    | some l => rfl
  | cond c x y ix iy =>
    intro E C K rd fr a σ
    cases fr with
    | none =>
      show fcond (feval a c) (fcode x) (fcode y) E C K rd a σ = _
      rw [feval_eq]
      simp only [scode]
      unfold fcond
      cases a.eval c <;> first
        | rfl
        | (rename_i b; cases b
           · exact iy E C K rd none a σ
           · exact ix E C K rd none a σ)
    | some _ => rfl
  | block id c ih =>
    intro E C K rd fr a σ
    cases fr with
    | none =>
      show funblock (fcode c E C K rd none a σ) id = _
      rw [funblock_eq, ih]
      simp only [scode]
      cases scode E C K rd c none a σ with
      | none => rfl
      | some p =>
        obtain ⟨e, a', σ'⟩ := p
        cases e <;> rfl
    | some _ => rfl
  | loop c ih =>
    intro E C K rd fr a σ
    cases fr with
    | none =>
      show floop K (fcode c) E C K rd a σ = _
      rw [floop_eq]
      simp only [scode]
      have : fcode c E C K rd none = scode E C K rd c none := funext fun a => funext fun σ => ih E C K rd none a σ
      rw [this]
    | some _ => rfl
  | rangeFunc f ps x y ix iy => intro E C K rd fr a σ; rfl
  | exit id => intro E C K rd fr a σ; cases fr <;> rfl
  | scope c ih =>
    intro E C K rd fr a σ
    cases fr with
    | none =>
      show sscope (hasLabel c) K (fcode c E C K rd) none a σ = _
      have : fcode c E C K rd = scode E C K rd c := funext fun fr => funext fun a => funext fun σ => ih E C K rd fr a σ
      rw [this]
      rfl
    | some _ => rfl
  | label l => intro E C K rd fr a σ; rfl
  | goto l => intro E C K rd fr a σ; cases fr <;> rfl
  | ret => intro E C K rd fr a σ; cases fr <;> rfl
  | refuse w => intro E C K rd fr a σ; cases fr <;> rfl

noncomputable def froundWith (run : Code → CodeR) (E : Env) (C : SCall) (K : Nat) (l : Nat) (args : Array Value) (σ : SW) : Option (Value × SW) :=
  match σ.get l with
  | some (.loop .ready _ t n ps as bd _ _) =>
    match Nat.beq args.size ps.size, setParams (ps.toList.zip args.toList) n t with
    | true, some t' =>
      match run as E C K (some l) none ⟨t', n, []⟩ σ with
      | some (.normal, a1, σ1) =>
        match σ1.get l with
        | some (.loop .ready pd t1 n1 ps1 as1 bd1 df1 v1) =>
          match run bd E C K (some l) none a1 (σ1.setObj l (.loop .busy pd t1 n1 ps1 as1 bd1 df1 (v1 + 1))) with
          | some (e, _, σ2) =>
            match σ2.get l with
            | some (.loop _ _ t2 n2 ps2 as2 bd2 df2 v2) =>
              match e with
              | .normal => some (.bool true, σ2.setObj l (.loop .ready none t2 n2 ps2 as2 bd2 df2 (v2 + 1)))
              | .ret => some (.bool false, σ2.setObj l (.loop .done (some .ret) t2 n2 ps2 as2 bd2 df2 (v2 + 1)))
              | .goto g => some (.bool false, σ2.setObj l (.loop .done (some (.goto g)) t2 n2 ps2 as2 bd2 df2 (v2 + 1)))
              | .exit id => some (.bool false, σ2.setObj l (.loop .done (some (.exit id)) t2 n2 ps2 as2 bd2 df2 (v2 + 1)))
            | _ => none
          | none => none
        | _ => none
      | _ => none
    | _, _ => none
  | _ => none

noncomputable abbrev fround := froundWith fcode

theorem run_eq : fcode = fun c E C K rd fr a σ => scode E C K rd c fr a σ :=
  funext fun c => funext fun E => funext fun C => funext fun K => funext fun rd => funext fun fr => funext fun a => funext fun σ => fcode_eq c E C K rd fr a σ

theorem fround_eq (E : Env) (C : SCall) (K : Nat) (l : Nat) (args : Array Value) (σ : SW) : fround E C K l args σ = sround E C K l args σ := by
  unfold fround
  rw [run_eq]
  rfl

noncomputable def fenterWith (run : Code → CodeR) (E : Env) (C : SCall) (K : Nat) (fn : Option Func) (args : Array Value) (σ : SW) : Option (Value × SW) :=
  match fn with
  | some fn => match fn.body, Nat.ble args.toList.length fn.ntmps && Nat.blt (fn.ntmps + 1) 16777216 with
    | some c, true => match run c E C K none none ⟨ofArgs args.toList 0 .nil, fn.ntmps, []⟩ σ with
      | some (.normal, a, σ') | some (.ret, a, σ') => sleave E fn a σ'
      | _ => none
    | _, _ => none
  | none => none

noncomputable abbrev fenter := fenterWith fcode

noncomputable def fcall (E : Env) (K : Nat) (d : Nat) : SCall :=
  Nat.rec (motive := fun _ => Env → Nat → SCall) (fun _ _ _ _ => none)
    (fun _ ih E K e σ => SEntry.rec (motive := fun _ => (Env → Nat → SCall) → Env → Nat → SW → Option (Value × SW))
      (fun f args ih E K σ => fenter E (ih E K) K (sguarded (Nat.blt f E.nf) (E.P.funcs[f]?)) args σ)
      (fun l args ih E K σ => fround E (ih E K) K l args σ) e ih E K σ) d E K

theorem fcall_eq (E : Env) (K : Nat) : ∀ d, fcall E K d = scall E K d := by
  intro d
  induction d with
  | zero => funext e σ; cases e <;> rfl
  | succ d ih =>
    funext e σ
    cases e with
    | fn f args =>
      show fenter E (fcall E K d) K (sguarded (Nat.blt f E.nf) (E.P.funcs[f]?)) args σ = _
      rw [ih]
      unfold fenter
      rw [run_eq]
      rfl
    | round l args =>
      show fround E (fcall E K d) K l args σ = _
      rw [ih, fround_eq]
      rfl
end Go.Sh

namespace Go.Sh
open Go Go.RowKit

/-! ## A world to begin in -/
noncomputable def lay (l : List SObj) : SW → SW :=
  List.rec (motive := fun _ => SW → SW) (fun σ => σ) (fun o _ ih σ => ih (σ.push o)) l

noncomputable def σof (l : List SObj) : SW := SW.rec (motive := fun _ => SW) (fun h n _ => ⟨h, n, n⟩) (lay l ⟨.nil, 0, 0⟩)

theorem lay_spec : ∀ (l : List SObj) (σ : SW), (∀ s, σ.n ≤ s → σ.get s = none) → σ.n + l.length + 1 < 2 ^ bits →
    (lay l σ).n = σ.n + l.length ∧ ∀ s, (lay l σ).get s = if s < σ.n then σ.get s else l[s - σ.n]? := by
  intro l
  induction l with
  | nil =>
    intro σ ht hb
    refine ⟨rfl, fun s => ?_⟩
    by_cases h : s < σ.n
    · simp only [h, if_true]; rfl
    · simp only [h, if_false]
      show σ.get s = _
      rw [ht s (by omega)]; simp
  | cons o l ih =>
    intro σ ht hb
    simp only [List.length_cons] at hb
    have htop : ∀ s, (σ.push o).n ≤ s → (σ.push o).get s = none := by
      intro s hs
      have hs : σ.n + 1 ≤ s := hs
      rw [SW.get_push_ne (by omega)]
      exact ht s (by omega)
    obtain ⟨h1, h2⟩ := ih (σ.push o) htop (by simp only [SW.push_n]; omega)
    refine ⟨by show (lay l (σ.push o)).n = _; rw [h1]; simp only [SW.push_n, List.length_cons]; omega, fun s => ?_⟩
    show (lay l (σ.push o)).get s = _
    rw [h2 s]
    simp only [SW.push_n]
    by_cases hs : s < σ.n
    · have e : s < σ.n + 1 := by omega
      simp only [hs, e, if_true]
      exact SW.get_push_ne (by omega)
    · by_cases hs2 : s = σ.n
      · subst hs2
        simp only [Nat.lt_irrefl, if_false, Nat.lt_succ_self, if_true, Nat.sub_self, List.getElem?_cons_zero]
        exact T.get_set_lt _ (by omega)
      · have e : ¬ s < σ.n + 1 := by omega
        simp only [hs, e, if_false]
        rw [show s - σ.n = (s - (σ.n + 1)) + 1 by omega, List.getElem?_cons_succ]

theorem σof_get (l : List SObj) (hb : l.length + 1 < 2 ^ bits) : (σof l).n = l.length ∧ (σof l).b = l.length ∧ ∀ s, (σof l).get s = l[s]? := by
  obtain ⟨h1, h2⟩ := lay_spec l ⟨.nil, 0, 0⟩ (fun s _ => rfl) (by simpa using hb)
  simp only [Nat.zero_add, Nat.not_lt_zero, if_false, Nat.sub_zero] at h1 h2
  refine ⟨h1, h1, fun s => ?_⟩
  exact h2 s

theorem rel_init {l : List SObj} (hb : l.length + 1 < 2 ^ bits) {κ : K} {w : World} (hdom : ∀ s bi, κ s = some bi → s < l.length ∧ bi.r < w.heap.size) (hfz : ∀ o ∈ l, live o = true → fz o = true)
    (hcont : ∀ s bi o, κ s = some bi → l[s]? = some o → OR κ bi o w.heap[bi.r]?) : Rel κ (σof l) w := by
  obtain ⟨h1, h2, h3⟩ := σof_get l hb
  refine ⟨by rw [h1, h2]; exact Nat.le_refl _, fun s o _ hg hl => ?_, fun s bi hk => by rw [h1]; exact hdom s bi hk, fun s bi hk hs => ?_, fun s bi o hk hg => ?_, fun s s' bi bi' o o' hk hk' _ _ _ _ hor _ => ?_, fun s hs => ?_⟩
  · rw [h3] at hg
    exact hfz o (List.mem_of_getElem? hg) hl
  · have := (hdom s bi hk).1
    omega
  · rw [h3] at hg
    exact hcont s bi o hk hg
  · have := (hdom s bi hk).1
    have := (hdom s' bi' hk').1
    omega
  · rw [h1] at hs
    rw [h3]
    exact List.getElem?_eq_none hs

/-! ## What was there stays -/
noncomputable def verB (o : Option SObj) (p : SObj) : Bool :=
  match ver p with
  | none => true
  | some v => match o.bind ver with
    | some v' => Nat.beq v v'
    | none => false

noncomputable def stays (σ : SW) : List SObj → Nat → Bool
  | [], _ => true
  | p :: r, s => match verB (σ.get s) p with
    | true => stays σ r (s + 1)
    | false => false

theorem stays_spec {σ : SW} : ∀ {l : List SObj} {s : Nat}, stays σ l s = true → ∀ i o v, l[i]? = some o → ver o = some v → ∃ o', σ.get (s + i) = some o' ∧ ver o' = some v := by
  intro l
  induction l with
  | nil => intro s _ i o v h; simp at h
  | cons p l ih =>
    intro s h i o v hi hv
    simp only [stays] at h
    cases hb : verB (σ.get s) p with
    | false => rw [hb] at h; simp at h
    | true =>
      rw [hb] at h
      cases i with
      | zero =>
        simp only [List.getElem?_cons_zero, Option.some.injEq] at hi
        subst hi
        unfold verB at hb
        rw [hv] at hb
        simp only at hb
        cases hg : σ.get s with
        | none => rw [hg] at hb; simp at hb
        | some o' =>
          rw [hg] at hb
          simp only [Option.bind_some] at hb
          cases hv' : ver o' with
          | none => rw [hv'] at hb; simp at hb
          | some v' =>
            rw [hv'] at hb
            have := Nat.eq_of_beq_eq_true hb
            subst this
            exact ⟨o', rfl, hv'⟩
      | succ i =>
        simp only [List.getElem?_cons_succ] at hi
        obtain ⟨o', h1, h2⟩ := ih h i o v hi hv
        exact ⟨o', by rw [show s + (i + 1) = s + 1 + i by omega]; exact h1, h2⟩

noncomputable def ran (l : List SObj) (v : Value) (r : Option (Value × SW)) : Bool :=
  Option.rec (motive := fun _ => Bool) false (fun p => Prod.rec (motive := fun _ => Bool) (fun u σ => veq 40 u v && stays σ l 0) p) r

theorem ran_spec {l : List SObj} {v : Value} {r : Option (Value × SW)} (h : ran l v r = true) : ∃ σ', r = some (v, σ') ∧ ∀ i o u, l[i]? = some o → ver o = some u → ∃ o', σ'.get i = some o' ∧ ver o' = some u := by
  cases r with
  | none => cases h
  | some p =>
    obtain ⟨u, σ'⟩ := p
    have h : (veq 40 u v && stays σ' l 0) = true := h
    simp only [Bool.and_eq_true] at h
    have := veq_eq 40 u v h.1
    subst this
    refine ⟨σ', rfl, fun i o x h1 h2 => ?_⟩
    have := stays_spec h.2 i o x h1 h2
    simpa using this

/-- A CLOSED CALL: the kernel's run of the shadow is the program's. -/
theorem closed_calls {E : Env} (G : Good E) {κ : K} (hgk : GK E κ) {l : List SObj} (hb : l.length + 1 < 2 ^ bits) {w : World} (hR : Rel κ (σof l) w) {f : FuncId} {args args' : Array Value} (ha : VA κ args args') {v : Value} {k d : Nat}
    (h : ran l v (fcall E k d (.fn f args') (σof l)) = true) :
    CallsIn Fence.wide 0 E.P f args w fun e w' => (∃ u κ', e = .returned u ∧ V κ' u v ∧ K.le κ κ') ∧ Below w.heap.size w w' := by
  obtain ⟨σ', h1, h2⟩ := ran_spec h
  rw [fcall_eq] at h1
  refine CallsIn.mono ((shadow_sim G k d).fn κ (σof l) w f args args' v σ' hgk hR ha h1).2 ?_
  rintro e w' ⟨u, κ', he, hv, hR', hP⟩
  refine ⟨⟨u, κ', he, hv, hP.le⟩, hP.os, hP.tape, hP.output, hP.size, fun r hr => hP.keep r hr fun s bi o x hk hg _ hx => ?_⟩
  rw [(σof_get l hb).2.2] at hg
  exact h2 s o x hg hx
end Go.Sh
