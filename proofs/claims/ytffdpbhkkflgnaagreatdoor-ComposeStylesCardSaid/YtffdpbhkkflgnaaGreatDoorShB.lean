/- What it is for a shadow heap and a world to stand for one another is defined, and what a step may do. Conditions: none. -/
import Derived.Test.YtffdpbhkkflgnaaGreatDoorShA
import Derived.RangeFuncRecord

namespace Go.Sh

/-! ## The maps -/
namespace T
variable {α : Type}

theorem get_node_zero (v : Option α) (l r : T α) : (T.node v l r).get 0 = v := rfl
theorem get_nil (i : Nat) : (T.nil : T α).get i = none := rfl
theorem get_node (v : Option α) (l r : T α) (i : Nat) :
    (T.node v l r).get i = if i = 0 then v else if i % 2 = 1 then l.get (i / 2) else r.get (i / 2 - 1) := by
  show @Bool.rec (fun _ => Option α) (@Bool.rec (fun _ => Option α) (r.get (i / 2 - 1)) (l.get (i / 2)) (Nat.beq (i % 2) 1)) v (Nat.beq i 0) = _
  cases h0 : Nat.beq i 0
  · have h0' : i ≠ 0 := Nat.ne_of_beq_eq_false h0
    cases h1 : Nat.beq (i % 2) 1
    · have := Nat.ne_of_beq_eq_false h1
      simp [h0', this]
    · have := Nat.eq_of_beq_eq_true h1
      simp [h0', this]
  · have := Nat.eq_of_beq_eq_true h0
    simp [this]

theorem single_succ (f i : Nat) (a : α) :
    T.single (f + 1) i a = if i = 0 then .node (some a) .nil .nil else if i % 2 = 1 then .node none (T.single f (i / 2) a) .nil else .node none .nil (T.single f (i / 2 - 1) a) := by
  show @Bool.rec (fun _ => T α) (@Bool.rec (fun _ => T α) (.node none .nil (T.single f (i / 2 - 1) a)) (.node none (T.single f (i / 2) a) .nil) (Nat.beq (i % 2) 1)) (T.node (some a) .nil .nil) (Nat.beq i 0) = _
  cases h0 : Nat.beq i 0
  · have h0' : i ≠ 0 := Nat.ne_of_beq_eq_false h0
    cases h1 : Nat.beq (i % 2) 1
    · have := Nat.ne_of_beq_eq_false h1
      simp [h0', this]
    · have := Nat.eq_of_beq_eq_true h1
      simp [h0', this]
  · have := Nat.eq_of_beq_eq_true h0
    simp [this]

theorem set_nil (f i : Nat) (a : α) : T.set f .nil i a = T.single f i a := rfl
theorem set_node (f : Nat) (v : Option α) (l r : T α) (i : Nat) (a : α) :
    T.set f (.node v l r) i a = if i = 0 then .node (some a) l r else if i % 2 = 1 then .node v (l.set f (i / 2) a) r else .node v l (r.set f (i / 2 - 1) a) := by
  show @Bool.rec (fun _ => T α) (@Bool.rec (fun _ => T α) (.node v l (r.set f (i / 2 - 1) a)) (.node v (l.set f (i / 2) a) r) (Nat.beq (i % 2) 1)) (T.node (some a) l r) (Nat.beq i 0) = _
  cases h0 : Nat.beq i 0
  · have h0' : i ≠ 0 := Nat.ne_of_beq_eq_false h0
    cases h1 : Nat.beq (i % 2) 1
    · have := Nat.ne_of_beq_eq_false h1
      simp [h0', this]
    · have := Nat.eq_of_beq_eq_true h1
      simp [h0', this]
  · have := Nat.eq_of_beq_eq_true h0
    simp [this]

theorem get_single (f : Nat) : ∀ (i j : Nat) (a : α), (j ≠ i → (T.single f i a).get j = none) ∧ ((T.single f i a).get i = some a ∨ (T.single f i a).get i = none) := by
  induction f with
  | zero => intro i j a; exact ⟨fun _ => rfl, .inr rfl⟩
  | succ f ih =>
    intro i j a
    rw [single_succ]
    by_cases h0 : i = 0
    · subst h0
      simp only [if_true, get_node]
      refine ⟨fun h => ?_, by simp⟩
      simp [h, get_nil]
    · by_cases h1 : i % 2 = 1
      · simp only [h0, h1, if_true, if_false, get_node, get_nil]
        refine ⟨fun h => ?_, ?_⟩
        · by_cases j0 : j = 0
          · simp [j0]
          · by_cases j1 : j % 2 = 1
            · simp only [j0, j1, if_true, if_false]
              exact (ih (i / 2) (j / 2) a).1 (by omega)
            · simp [j0, j1]
        · exact (ih (i / 2) 0 a).2
      · simp only [h0, h1, if_false, get_node, get_nil]
        refine ⟨fun h => ?_, ?_⟩
        · by_cases j0 : j = 0
          · simp [j0]
          · by_cases j1 : j % 2 = 1
            · simp [j0, j1]
            · simp only [j0, j1, if_false]
              exact (ih (i / 2 - 1) (j / 2 - 1) a).1 (by omega)
        · exact (ih (i / 2 - 1) 0 a).2

theorem get_set (f : Nat) (t : T α) : ∀ (i j : Nat) (a : α), (j ≠ i → (t.set f i a).get j = t.get j) ∧ ((t.set f i a).get i = some a ∨ (t.set f i a).get i = none) := by
  induction t with
  | nil => intro i j a; rw [set_nil]; exact ⟨fun h => by rw [(get_single f i j a).1 h, get_nil], (get_single f i j a).2⟩
  | node v l r ihl ihr =>
    intro i j a
    rw [set_node]
    by_cases h0 : i = 0
    · subst h0
      simp only [if_true, get_node]
      refine ⟨fun h => ?_, by simp⟩
      simp [h]
    · by_cases h1 : i % 2 = 1
      · simp only [h0, h1, if_true, if_false, get_node]
        refine ⟨fun h => ?_, ?_⟩
        · by_cases j0 : j = 0
          · simp [j0]
          · by_cases j1 : j % 2 = 1
            · simp only [j0, j1, if_true, if_false]
              exact (ihl (i / 2) (j / 2) a).1 (by omega)
            · simp [j0, j1]
        · exact (ihl (i / 2) 0 a).2
      · simp only [h0, h1, if_false, get_node]
        refine ⟨fun h => ?_, ?_⟩
        · by_cases j0 : j = 0
          · simp [j0]
          · by_cases j1 : j % 2 = 1
            · simp [j0, j1]
            · simp only [j0, j1, if_false]
              exact (ihr (i / 2 - 1) (j / 2 - 1) a).1 (by omega)
        · exact (ihr (i / 2 - 1) 0 a).2

theorem get_set_ne {f : Nat} {t : T α} {i j : Nat} {a : α} (h : j ≠ i) : (t.set f i a).get j = t.get j := (get_set f t i j a).1 h
theorem get_set_same {f : Nat} {t : T α} {i : Nat} {a b : α} (h : (t.set f i a).get i = some b) : b = a := by
  rcases (get_set f t i i a).2 with h' | h' <;> rw [h'] at h <;> cases h; rfl

theorem get_single_lt : ∀ {f i : Nat} {a : α}, i + 1 < 2 ^ f → (T.single f i a).get i = some a
  | 0, i, a, h => by simp at h
  | f + 1, i, a, h => by
    rw [single_succ]
    rw [Nat.pow_succ] at h
    by_cases h0 : i = 0
    · subst h0; simp [get_node]
    · by_cases h1 : i % 2 = 1
      · simp only [h0, h1, if_true, if_false, get_node]
        exact get_single_lt (by omega)
      · simp only [h0, h1, if_false, get_node]
        exact get_single_lt (by omega)

theorem get_set_lt {f : Nat} (t : T α) : ∀ {i : Nat} {a : α}, i + 1 < 2 ^ f → (t.set f i a).get i = some a := by
  induction t with
  | nil => intro i a h; rw [set_nil]; exact get_single_lt h
  | node v l r ihl ihr =>
    intro i a h
    rw [set_node]
    by_cases h0 : i = 0
    · subst h0; simp [get_node]
    · by_cases h1 : i % 2 = 1
      · simp only [h0, h1, if_true, if_false, get_node]
        exact ihl (by omega)
      · simp only [h0, h1, if_false, get_node]
        exact ihr (by omega)
end T

namespace SW
theorem get_push_ne {σ : SW} {o : SObj} {s : Nat} (h : s ≠ σ.n) : (σ.push o).get s = σ.get s := T.get_set_ne h
theorem get_push_same {σ : SW} {o o' : SObj} (h : (σ.push o).get σ.n = some o') : o' = o := T.get_set_same h
theorem get_setObj_ne {σ : SW} {o : SObj} {s r : Nat} (h : s ≠ r) : (σ.setObj r o).get s = σ.get s := T.get_set_ne h
theorem get_setObj_same {σ : SW} {o o' : SObj} {r : Nat} (h : (σ.setObj r o).get r = some o') : o' = o := T.get_set_same h
@[simp] theorem push_n {σ : SW} {o : SObj} : (σ.push o).n = σ.n + 1 := rfl
@[simp] theorem setObj_n {σ : SW} {o : SObj} {r : Nat} : (σ.setObj r o).n = σ.n := rfl
end SW

/-! ## Lists, element by element -/
inductive F2 {α β : Type} (R : α → β → Prop) : List α → List β → Prop
  | nil : F2 R [] []
  | cons {a b as bs} : R a b → F2 R as bs → F2 R (a :: as) (b :: bs)

namespace F2
variable {α β : Type} {R S : α → β → Prop} {as as' : List α} {bs bs' : List β}

theorem length (h : F2 R as bs) : as.length = bs.length := by
  induction h with
  | nil => rfl
  | cons _ _ ih => simp [ih]
theorem mono (h : F2 R as bs) (hrs : ∀ a b, R a b → S a b) : F2 S as bs := by
  induction h with
  | nil => exact .nil
  | cons h _ ih => exact .cons (hrs _ _ h) ih
theorem append (h : F2 R as bs) (h' : F2 R as' bs') : F2 R (as ++ as') (bs ++ bs') := by
  induction h with
  | nil => exact h'
  | cons h _ ih => exact .cons h ih
theorem take (h : F2 R as bs) (n : Nat) : F2 R (as.take n) (bs.take n) := by
  induction h generalizing n with
  | nil => simp; exact .nil
  | cons h _ ih => cases n with
    | zero => exact .nil
    | succ n => exact .cons h (ih n)
theorem drop (h : F2 R as bs) (n : Nat) : F2 R (as.drop n) (bs.drop n) := by
  induction h generalizing n with
  | nil => simp; exact .nil
  | cons h t ih => cases n with
    | zero => exact .cons h t
    | succ n => exact ih n
theorem get (h : F2 R as bs) {i : Nat} {b : β} (hb : bs[i]? = some b) : ∃ a, as[i]? = some a ∧ R a b := by
  induction h generalizing i with
  | nil => simp at hb
  | cons h _ ih => cases i with
    | zero => simp at hb; subst hb; exact ⟨_, rfl, h⟩
    | succ i => simp at hb; simpa using ih hb
theorem getR (h : F2 R as bs) {i : Nat} {a : α} (ha : as[i]? = some a) : ∃ b, bs[i]? = some b ∧ R a b := by
  induction h generalizing i with
  | nil => simp at ha
  | cons h _ ih => cases i with
    | zero => simp at ha; subst ha; exact ⟨_, rfl, h⟩
    | succ i => simp at ha; simpa using ih ha
theorem of_get (hl : as.length = bs.length) (h : ∀ (i : Nat) (a : α) (b : β), as[i]? = some a → bs[i]? = some b → R a b) : F2 R as bs := by
  induction as generalizing bs with
  | nil => cases bs with
    | nil => exact .nil
    | cons _ _ => simp at hl
  | cons a as ih => cases bs with
    | nil => simp at hl
    | cons b bs => exact .cons (h 0 a b rfl rfl) (ih (by simpa using hl) fun i a b ha hb => h (i + 1) a b (by simpa using ha) (by simpa using hb))
theorem set (h : F2 R as bs) (i : Nat) {a : α} {b : β} (hab : R a b) : F2 R (as.set i a) (bs.set i b) := by
  induction h generalizing i with
  | nil => simp; exact .nil
  | cons h t ih => cases i with
    | zero => exact .cons hab t
    | succ i => exact .cons h (ih i)
theorem map {γ δ : Type} {R' : γ → δ → Prop} (f : α → γ) (g : β → δ) (h : F2 R as bs) (hf : ∀ a b, R a b → R' (f a) (g b)) : F2 R' (as.map f) (bs.map g) := by
  induction h with
  | nil => exact .nil
  | cons h _ ih => exact .cons (hf _ _ h) ih
theorem mapSame {γ : Type} (l : List γ) (f : γ → α) (g : γ → β) (hf : ∀ c ∈ l, R (f c) (g c)) : F2 R (l.map f) (l.map g) := by
  induction l with
  | nil => exact .nil
  | cons c l ih => exact .cons (hf c (by simp)) (ih fun c hc => hf c (by simp [hc]))
theorem zip {γ : Type} (l : List γ) (h : F2 R as bs) : F2 (fun x y => x.1 = y.1 ∧ R x.2 y.2) (l.zip as) (l.zip bs) := by
  induction h generalizing l with
  | nil => simp; exact .nil
  | cons h _ ih => cases l with
    | nil => exact .nil
    | cons c l => exact .cons ⟨rfl, h⟩ (ih l)
end F2

/-! ## What a shadow block stands for -/
structure BI where
  r : Nat
  d : Nat
  n : Nat

abbrev K := Nat → Option BI

def K.le (κ κ' : K) : Prop := ∀ s bi, κ s = some bi → κ' s = some bi
theorem K.le_refl (κ : K) : K.le κ κ := fun _ _ h => h
theorem K.le_trans {a b c : K} (h : K.le a b) (h' : K.le b c) : K.le a c := fun s bi hs => h' s bi (h s bi hs)

def K.add (κ : K) (s : Nat) (bi : BI) : K := fun x => if x = s then some bi else κ x
theorem K.add_same (κ : K) (s : Nat) (bi : BI) : κ.add s bi s = some bi := by simp [K.add]
theorem K.add_ne {κ : K} {s x : Nat} {bi : BI} (h : x ≠ s) : κ.add s bi x = κ x := by simp [K.add, h]
theorem K.le_add {κ : K} {s : Nat} {bi : BI} (h : κ s = none) : K.le κ (κ.add s bi) := fun x b hx => by
  have : x ≠ s := fun e => by rw [e, h] at hx; cases hx
  rw [K.add_ne this]; exact hx

inductive FnR (κ : K) : Fn → Fn → Prop
  | func (f : FuncId) : FnR κ (.func f) (.func f)
  | method (n : String) : FnR κ (.method n) (.method n)
  | methodOf (t : TypeId) (n : String) : FnR κ (.methodOf t n) (.methodOf t n)
  | via (t : TypeId) (p : Array FieldStep) (f : FuncId) (b : Bool) : FnR κ (.via t p f b) (.via t p f b)
  | yield {s : Nat} {bi : BI} : κ s = some bi → FnR κ (.yield bi.r) (.yield s)

/-- The real value, the shadow value. -/
inductive V (κ : K) : Value → Value → Prop
  | bool (b : Bool) : V κ (.bool b) (.bool b)
  | int (k : IntKind) (n : Int) : V κ (.int k n) (.int k n)
  | float (k : FloatKind) (b : Nat) : V κ (.float k b) (.float k b)
  | complex (k : FloatKind) (a b : Nat) : V κ (.complex k a b) (.complex k a b)
  | string (s : ByteArray) : V κ (.string s) (.string s)
  | pnil : V κ (.pointer none) (.pointer none)
  | ptr {s off : Nat} {bi : BI} : κ s = some bi → V κ (.pointer (some ⟨bi.r, off + bi.d, none⟩)) (.pointer (some ⟨s, off, none⟩))
  | snil : V κ (.slice none 0 0) (.slice none 0 0)
  | slice {s off len cap e : Nat} {bi : BI} : κ s = some bi → len ≤ cap → (e = 0 ∨ off + bi.d + cap * e ≤ bi.n) →
      V κ (.slice (some ⟨bi.r, off + bi.d, none⟩) len cap) (.slice (some ⟨s, off, none⟩) len e)
  | szero {ra sa : Addr} {e : Nat} {bi : BI} : κ sa.block = some bi → V κ (.slice (some ra) 0 0) (.slice (some sa) 0 e)
  | mnil : V κ (.map none) (.map none)
  | map {s : Nat} {bi : BI} : κ s = some bi → V κ (.map (some bi.r)) (.map (some s))
  | cnil : V κ (.chan none) (.chan none)
  | func {fn fn' : Fn} {a a' c c' : Array Value} : FnR κ fn fn' → a.size = a'.size → (∀ (i : Nat) (v v' : Value), a[i]? = some v → a'[i]? = some v' → V κ v v') →
      c.size = c'.size → (∀ (i : Nat) (v v' : Value), c[i]? = some v → c'[i]? = some v' → V κ v v') → V κ (.func fn a c) (.func fn' a' c')
  | nilFunc : V κ .nilFunc .nilFunc
  | iface {t : TypeId} {v v' : Value} : V κ v v' → V κ (.iface t v) (.iface t v')
  | nilIface : V κ .nilIface .nilIface
  | agg {a a' : Array Value} : a.size = a'.size → (∀ (i : Nat) (v v' : Value), a[i]? = some v → a'[i]? = some v' → V κ v v') → V κ (.agg a) (.agg a')
  | tuple {a a' : Array Value} : a.size = a'.size → (∀ (i : Nat) (v v' : Value), a[i]? = some v → a'[i]? = some v' → V κ v v') → V κ (.tuple a) (.tuple a')

def VA (κ : K) (a a' : Array Value) : Prop := F2 (V κ) a.toList a'.toList

theorem VA.of_points {κ : K} {a a' : Array Value} (hs : a.size = a'.size) (h : ∀ (i : Nat) (v v' : Value), a[i]? = some v → a'[i]? = some v' → V κ v v') : VA κ a a' :=
  F2.of_get (by simpa using hs) fun i v v' hv hv' => h i v v' (by simpa using hv) (by simpa using hv')
theorem VA.size {κ : K} {a a' : Array Value} (h : VA κ a a') : a.size = a'.size := by simpa using F2.length h
theorem VA.points {κ : K} {a a' : Array Value} (h : VA κ a a') (i : Nat) (v v' : Value) (hv : a[i]? = some v) (hv' : a'[i]? = some v') : V κ v v' := by
  obtain ⟨u, hu, hr⟩ := F2.get h (i := i) (b := v') (by simpa using hv')
  have : u = v := by
    have h1 : a.toList[i]? = some v := by simpa using hv
    rw [h1] at hu; cases hu; rfl
  exact this ▸ hr
theorem V.agg' {κ : K} {a a' : Array Value} (h : VA κ a a') : V κ (.agg a) (.agg a') := .agg h.size h.points
theorem V.tuple' {κ : K} {a a' : Array Value} (h : VA κ a a') : V κ (.tuple a) (.tuple a') := .tuple h.size h.points
theorem V.func' {κ : K} {fn fn' : Fn} {a a' c c' : Array Value} (hf : FnR κ fn fn') (h : VA κ a a') (h' : VA κ c c') : V κ (.func fn a c) (.func fn' a' c') :=
  .func hf h.size h.points h'.size h'.points

theorem V.undef {κ : K} : V κ Go.undef Go.undef := .tuple' .nil

theorem FnR.mono {κ κ' : K} {f f' : Fn} (h : FnR κ f f') (hk : K.le κ κ') : FnR κ' f f' := by
  cases h with
  | func f => exact .func f
  | method n => exact .method n
  | methodOf t n => exact .methodOf t n
  | via t p f b => exact .via t p f b
  | yield h => exact .yield (hk _ _ h)

theorem V.mono {κ κ' : K} {v v' : Value} (h : V κ v v') (hk : K.le κ κ') : V κ' v v' := by
  induction h with
  | bool b => exact .bool b
  | int k n => exact .int k n
  | float k b => exact .float k b
  | complex k a b => exact .complex k a b
  | string s => exact .string s
  | pnil => exact .pnil
  | ptr h => exact .ptr (hk _ _ h)
  | snil => exact .snil
  | slice h a b => exact .slice (hk _ _ h) a b
  | szero h => exact .szero (hk _ _ h)
  | mnil => exact .mnil
  | map h => exact .map (hk _ _ h)
  | cnil => exact .cnil
  | func hf hs _ hs' _ ih ih' => exact .func (hf.mono hk) hs (fun i v v' h h' => ih i v v' h h') hs' (fun i v v' h h' => ih' i v v' h h')
  | nilFunc => exact .nilFunc
  | iface _ ih => exact .iface ih
  | nilIface => exact .nilIface
  | agg hs _ ih => exact .agg hs (fun i v v' h h' => ih i v v' h h')
  | tuple hs _ ih => exact .tuple hs (fun i v v' h h' => ih i v v' h h')

theorem VA.mono {κ κ' : K} {a a' : Array Value} (h : VA κ a a') (hk : K.le κ κ') : VA κ' a a' := F2.mono h fun _ _ h => h.mono hk

theorem V.cells {κ : K} {v v' : Value} (h : V κ v v') : VA κ v.cells v'.cells := by
  cases h with
  | agg hs h => exact VA.of_points hs h
  | _ => exact .cons (by constructor <;> assumption) .nil

theorem V.oneCell {κ : K} {v v' : Value} (h : V κ v v') : Sh.oneCell v = Sh.oneCell v' := by cases h <;> rfl

/-- A place. -/
def AR (κ : K) (a a' : Addr) : Prop := ∃ bi, κ a'.block = some bi ∧ a = ⟨bi.r, a'.off + bi.d, none⟩ ∧ a'.spot = none

theorem AR.ptr {κ : K} {a a' : Addr} (h : AR κ a a') : V κ (.pointer (some a)) (.pointer (some a')) := by
  obtain ⟨bi, hk, rfl, hs⟩ := h
  obtain ⟨b, o, sp⟩ := a'
  simp only at hs hk
  subst hs
  exact .ptr hk
theorem AR.of_ptr {κ : K} {a a' : Addr} (h : V κ (.pointer (some a)) (.pointer (some a'))) : AR κ a a' := by
  cases h with
  | ptr h => exact ⟨_, h, rfl, rfl⟩
theorem AR.mono {κ κ' : K} {a a' : Addr} (h : AR κ a a') (hk : K.le κ κ') : AR κ' a a' := by
  obtain ⟨bi, h, e, s⟩ := h
  exact ⟨bi, hk _ _ h, e, s⟩
theorem AR.add {κ : K} {a a' : Addr} (h : AR κ a a') (n : Nat) : AR κ (a.add n) (a'.add n) := by
  obtain ⟨bi, hk, rfl, hs⟩ := h
  unfold Addr.add
  by_cases hn : n = 0
  · simp only [hn, if_true]; exact ⟨bi, hk, rfl, hs⟩
  · simp only [hn, if_false]
    refine ⟨bi, hk, ?_, rfl⟩
    simp only [Addr.mk.injEq, true_and, and_true]
    omega

/-! ## The heaps -/
structure TMR (κ : K) (tmps : Array Value) (t : T Value) (n : Nat) : Prop where
  size : tmps.size = n
  bound : n + 1 < 2 ^ bits
  vals : ∀ i, V κ (tmps.getD i undef) ((t.get i).getD undef)

theorem TMR.mono {κ κ' : K} {tmps : Array Value} {t : T Value} {n : Nat} (h : TMR κ tmps t n) (hk : K.le κ κ') : TMR κ' tmps t n := ⟨h.1, h.2, fun i => (h.3 i).mono hk⟩

theorem TMR.set {κ : K} {tmps : Array Value} {t : T Value} {n d : Nat} {v v' : Value} (h : TMR κ tmps t n) (hd : d < n) (hv : V κ v v') : TMR κ (tmps.setIfInBounds d v) (t.set bits d v') n := by
  refine ⟨by simp [h.1], h.2, fun i => ?_⟩
  by_cases hi : i = d
  · subst hi
    rw [T.get_set_lt t (by have := h.2; omega)]
    simp only [Option.getD_some]
    have : (tmps.setIfInBounds i v).getD i undef = v := by
      have := h.1
      simp [Array.getD, this, hd]
    rw [this]; exact hv
  · rw [T.get_set_ne hi]
    have : (tmps.setIfInBounds d v).getD i undef = tmps.getD i undef := by
      simp only [Array.getD_eq_getD_getElem?]
      rw [Array.getElem?_setIfInBounds_ne (Ne.symm hi)]
    rw [this]; exact h.3 i

structure ER (κ : K) (e e' : MapEntry) : Prop where
  key : V κ e.key e'.key
  val : V κ e.val e'.val
  born : e.born = e'.born

theorem ER.mono {κ κ' : K} {e e' : MapEntry} (h : ER κ e e') (hk : K.le κ κ') : ER κ' e e' := ⟨h.1.mono hk, h.2.mono hk, h.3⟩

/-- The constants and the globals in a code. -/
def OpV (κ : K) : Operand → Prop
  | .const v => V κ v v
  | .global g => V κ (.pointer (some ⟨g, 0, none⟩)) (.pointer (some ⟨g, 0, none⟩))
  | _ => True

def CodeV (κ : K) : Code → Prop
  | .region _ ops _ => ∀ o ∈ ops.toList, ∀ x ∈ o.op.operands.toList, OpV κ x
  | .seq x y => CodeV κ x ∧ CodeV κ y
  | .cond c x y => OpV κ c ∧ CodeV κ x ∧ CodeV κ y
  | .block _ c => CodeV κ c
  | .loop c => CodeV κ c
  | .scope c => CodeV κ c
  | .rangeFunc f _ x y => OpV κ f ∧ CodeV κ x ∧ CodeV κ y
  | _ => True

theorem OpV.mono {κ κ' : K} {x : Operand} (h : OpV κ x) (hk : K.le κ κ') : OpV κ' x := by
  cases x <;> first | trivial | exact V.mono h hk

theorem CodeV.mono {κ κ' : K} (hk : K.le κ κ') {c : Code} (h : CodeV κ c) : CodeV κ' c := by
  induction c with
  | region id ops dr => exact fun o ho x hx => (h o ho x hx).mono hk
  | seq x y i1 i2 => exact ⟨i1 h.1, i2 h.2⟩
  | cond c x y i1 i2 => exact ⟨h.1.mono hk, i1 h.2.1, i2 h.2.2⟩
  | block id c ih => exact ih h
  | loop c ih => exact ih h
  | scope c ih => exact ih h
  | rangeFunc f ps x y i1 i2 => exact ⟨h.1.mono hk, i1 h.2.1, i2 h.2.2⟩
  | _ => trivial

structure LoopR (κ : K) (r : Loop) (st : LoopState) (pd : Option Code) (t : T Value) (n : Nat) (ps : Array Tmp) (as bd : Code) (df : Nat) : Prop where
  state : r.state = st
  pending : r.pending = pd
  tmps : TMR κ r.tmps t n
  params : r.params = ps
  assign : r.assign = as
  body : r.body = bd
  defers : ∃ bi, κ df = some bi ∧ r.defers = bi.r
  ok : CodeV κ as ∧ CodeV κ bd

theorem LoopR.mono {κ κ' : K} {r : Loop} {st : LoopState} {pd : Option Code} {t : T Value} {n : Nat} {ps : Array Tmp} {as bd : Code} {df : Nat} (h : LoopR κ r st pd t n ps as bd df) (hk : K.le κ κ') :
    LoopR κ' r st pd t n ps as bd df := by
  obtain ⟨bi, hb, hr⟩ := h.defers
  exact ⟨h.state, h.pending, h.tmps.mono hk, h.params, h.assign, h.body, ⟨bi, hk _ _ hb, hr⟩, h.ok.1.mono hk, h.ok.2.mono hk⟩

def OR (κ : K) (bi : BI) (o : SObj) (real : Option Obj) : Prop :=
  match o with
  | .cells c e exact frz _ => ∃ cr fr, real = some (.cells cr e fr) ∧ cr.size = bi.n ∧ bi.d + c.length ≤ cr.size ∧ F2 (V κ) ((cr.toList.drop bi.d).take c.length) c ∧
      (exact = true → bi.d = 0 ∧ c.length = cr.size) ∧ (frz = false → fr.1 = fr.2 ∨ cr.size ≤ fr.1)
  | .iter s p _ => real = some (.stringIter s p) ∧ bi.d = 0
  | .map es clk _ => ∃ es', real = some (.map es' clk) ∧ F2 (ER κ) es'.toList es.toList
  | .loop st pd t n ps as bd df _ => ∃ r, real = some (.loop r) ∧ LoopR κ r st pd t n ps as bd df
  | .deferred _ => real = some (.deferred (some []))
  | .spent => real = some (.deferred none)
  | .dead => True

theorem OR.mono {κ κ' : K} {bi : BI} {o : SObj} {real : Option Obj} (h : OR κ bi o real) (hk : K.le κ κ') : OR κ' bi o real := by
  cases o with
  | cells c e x f v =>
    obtain ⟨cr, fr, h1, h2, h3, h4, h5⟩ := h
    exact ⟨cr, fr, h1, h2, h3, h4.mono fun _ _ h => h.mono hk, h5⟩
  | iter s p v => exact h
  | map es c v =>
    obtain ⟨es', h1, h2⟩ := h
    exact ⟨es', h1, h2.mono fun _ _ h => h.mono hk⟩
  | loop st pd t n ps as bd df v =>
    obtain ⟨r, h1, h2⟩ := h
    exact ⟨r, h1, h2.mono hk⟩
  | deferred v => exact h
  | spent => exact h
  | dead => trivial

def live : SObj → Bool
  | .dead => false
  | _ => true

def fz : SObj → Bool
  | .cells _ _ _ f _ => f
  | _ => false

structure Rel (κ : K) (σ : SW) (w : World) : Prop where
  base : σ.b ≤ σ.n
  old : ∀ s o, s < σ.b → σ.get s = some o → live o = true → fz o = true
  dom : ∀ s bi, κ s = some bi → s < σ.n ∧ bi.r < w.heap.size
  d0 : ∀ s bi, κ s = some bi → σ.b ≤ s → bi.d = 0
  cont : ∀ s bi o, κ s = some bi → σ.get s = some o → OR κ bi o w.heap[bi.r]?
  inj : ∀ s s' bi bi' o o', κ s = some bi → κ s' = some bi' → σ.get s = some o → σ.get s' = some o' → live o = true → live o' = true → (σ.b ≤ s ∨ σ.b ≤ s') → bi.r = bi'.r → s = s'
  top : ∀ s, σ.n ≤ s → σ.get s = none

def ver : SObj → Option Nat
  | .cells _ _ _ _ v | .iter _ _ v | .map _ _ v | .loop _ _ _ _ _ _ _ _ v | .deferred v => some v
  | .spent | .dead => none

/-- What one step may do. -/
structure Post (κ κ' : K) (σ σ' : SW) (w w' : World) : Prop where
  le : K.le κ κ'
  base : σ'.b = σ.b
  news : ∀ s bi, κ s = none → κ' s = some bi → σ.n ≤ s
  n : σ.n ≤ σ'.n
  others : ∀ s, s < σ.n → κ s = none → σ'.get s = σ.get s
  size : w.heap.size ≤ w'.heap.size
  os : w'.os = w.os
  tape : w'.tape = w.tape
  output : w'.output = w.output
  /-- a real block stays as it is where its live shadow (if it has one) is untouched -/
  keep : ∀ r, r < w.heap.size → (∀ s bi o v, κ s = some bi → σ.get s = some o → bi.r = r → ver o = some v → ∃ o', σ'.get s = some o' ∧ ver o' = some v) → w'.heap[r]? = w.heap[r]?
  vers : ∀ s o' v', s < σ.n → σ'.get s = some o' → ver o' = some v' → ∃ o v, σ.get s = some o ∧ ver o = some v ∧ v ≤ v'
  /-- a new shadow of an old real block takes the place of a shadow that is dead now (or is dead itself) -/
  reuse : ∀ s bi, κ s = none → κ' s = some bi → bi.r < w.heap.size → (∀ o, σ'.get s = some o → ver o = none) ∨
    ∃ s0 b0 o0 v0, κ s0 = some b0 ∧ σ.get s0 = some o0 ∧ ver o0 = some v0 ∧ b0.r = bi.r ∧ (∀ o, σ'.get s0 = some o → ver o = none)

theorem Post.refl (κ : K) (σ : SW) (w : World) : Post κ κ σ σ w w where
  le := K.le_refl κ
  base := rfl
  news := fun s bi h h' => by rw [h] at h'; cases h'
  n := Nat.le_refl _
  others := fun _ _ _ => rfl
  size := Nat.le_refl _
  os := rfl
  tape := rfl
  output := rfl
  keep := fun _ _ _ => rfl
  vers := fun s o' v' _ h hv => ⟨o', v', h, hv, Nat.le_refl _⟩
  reuse := fun s bi h h' => by rw [h] at h'; cases h'

theorem Post.dead {κ κ' : K} {σ σ' : SW} {w w' : World} (h : Post κ κ' σ σ' w w') {s : Nat} (hs : s < σ.n) (hd : ∀ o, σ.get s = some o → ver o = none) : ∀ o, σ'.get s = some o → ver o = none := by
  intro o ho
  cases hv : ver o with
  | none => rfl
  | some v =>
    obtain ⟨o1, v1, hg, hv1, _⟩ := h.vers s o v hs ho hv
    rw [hd o1 hg] at hv1; cases hv1

theorem Post.trans {κ κ' κ'' : K} {σ σ' σ'' : SW} {w w' w'' : World} (hd : ∀ s bi, κ s = some bi → s < σ.n) (hd' : ∀ s bi, κ' s = some bi → s < σ'.n)
    (h : Post κ κ' σ σ' w w') (h' : Post κ' κ'' σ' σ'' w' w'') : Post κ κ'' σ σ'' w w'' where
  le := K.le_trans h.le h'.le
  base := h'.base.trans h.base
  news := fun s bi h1 h2 => by
    cases hk : κ' s with
    | none => exact Nat.le_trans h.n (h'.news s bi hk h2)
    | some b => exact h.news s b h1 hk
  n := Nat.le_trans h.n h'.n
  others := fun s hs h1 => by
    have hk : κ' s = none := by
      cases hk : κ' s with
      | none => rfl
      | some b => have := h.news s b h1 hk; omega
    rw [h'.others s (Nat.lt_of_lt_of_le hs h.n) hk, h.others s hs h1]
  size := Nat.le_trans h.size h'.size
  os := h'.os.trans h.os
  tape := h'.tape.trans h.tape
  output := h'.output.trans h.output
  keep := fun r hr hall => by
    have step1 : w'.heap[r]? = w.heap[r]? := h.keep r hr fun s bi o v hk hg hb hv => by
      obtain ⟨o'', h2, hv2⟩ := hall s bi o v hk hg hb hv
      obtain ⟨o1, v1, hg1, hv1, hle⟩ := h'.vers s o'' v (Nat.lt_of_lt_of_le (hd s bi hk) h.n) h2 hv2
      obtain ⟨o0, v0, hg0, hv0, hle0⟩ := h.vers s o1 v1 (hd s bi hk) hg1 hv1
      rw [hg] at hg0; cases hg0
      rw [hv] at hv0; cases hv0
      have : v1 = v := by omega
      exact ⟨o1, hg1, this ▸ hv1⟩
    rw [← step1]
    refine h'.keep r (Nat.lt_of_lt_of_le hr h.size) fun s bi o v hk hg hb hv => ?_
    cases hk0 : κ s with
    | none =>
      exfalso
      rcases h.reuse s bi hk0 hk (hb ▸ hr) with hx | ⟨s0, b0, o0, v0, e1, e2, e3, e4, e5⟩
      · rw [hx o hg] at hv; cases hv
      · obtain ⟨o'', h2, hv2⟩ := hall s0 b0 o0 v0 e1 e2 (e4.trans hb) e3
        obtain ⟨o1, v1, hg1, hv1, _⟩ := h'.vers s0 o'' v0 (Nat.lt_of_lt_of_le (hd s0 b0 e1) h.n) h2 hv2
        rw [e5 o1 hg1] at hv1; cases hv1
    | some b0 =>
      have hbb := h.le s b0 hk0
      rw [hbb] at hk; cases hk
      obtain ⟨o0, v0, hg0, hv0, hle⟩ := h.vers s o v (hd s bi hk0) hg hv
      obtain ⟨o'', hg2, hv2⟩ := hall s bi o0 v0 hk0 hg0 hb hv0
      obtain ⟨o1, v1, hg1, hv1, hle1⟩ := h'.vers s o'' v0 (Nat.lt_of_lt_of_le (hd s bi hk0) h.n) hg2 hv2
      rw [hg] at hg1; cases hg1
      rw [hv] at hv1; cases hv1
      have : v0 = v := by omega
      exact ⟨o'', hg2, this ▸ hv2⟩
  vers := fun s o'' v'' hs hg hv => by
    obtain ⟨o1, v1, hg1, hv1, hle1⟩ := h'.vers s o'' v'' (Nat.lt_of_lt_of_le hs h.n) hg hv
    obtain ⟨o0, v0, hg0, hv0, hle0⟩ := h.vers s o1 v1 hs hg1 hv1
    exact ⟨o0, v0, hg0, hv0, Nat.le_trans hle0 hle1⟩
  reuse := fun s bi h1 h2 hr => by
    cases hk : κ' s with
    | some b =>
      have := h'.le s b hk
      rw [this] at h2; cases h2
      have hsn := hd' s bi hk
      rcases h.reuse s bi h1 hk hr with hx | ⟨s0, b0, o0, v0, e1, e2, e3, e4, e5⟩
      · exact .inl (h'.dead hsn hx)
      · exact .inr ⟨s0, b0, o0, v0, e1, e2, e3, e4, h'.dead (Nat.lt_of_lt_of_le (hd s0 b0 e1) h.n) e5⟩
    | none =>
      rcases h'.reuse s bi hk h2 (Nat.lt_of_lt_of_le hr h.size) with hx | ⟨s0, b0, o0, v0, e1, e2, e3, e4, e5⟩
      · exact .inl hx
      · cases hk0 : κ s0 with
        | some b =>
          have := h.le s0 b hk0
          rw [this] at e1; cases e1
          obtain ⟨o1, v1, g1, g2, _⟩ := h.vers s0 o0 v0 (hd s0 b0 hk0) e2 e3
          exact .inr ⟨s0, b0, o1, v1, hk0, g1, g2, e4, e5⟩
        | none =>
          rcases h.reuse s0 b0 hk0 e1 (e4 ▸ hr) with hx | ⟨s1, b1, o1, v1, f1, f2, f3, f4, f5⟩
          · rw [hx o0 e2] at e3; cases e3
          · exact .inr ⟨s1, b1, o1, v1, f1, f2, f3, f4.trans e4, h'.dead (Nat.lt_of_lt_of_le (hd s1 b1 f1) h.n) f5⟩
end Go.Sh

namespace Go.Sh
open Go

theorem Rel.of_heap {κ : K} {σ : SW} {w w' : World} (h : Rel κ σ w) (hh : w'.heap = w.heap) : Rel κ σ w' where
  base := h.base
  old := h.old
  dom := fun s bi hk => by rw [hh]; exact h.dom s bi hk
  d0 := h.d0
  cont := fun s bi o hk hg => by rw [hh]; exact h.cont s bi o hk hg
  inj := h.inj
  top := h.top

theorem live_of_ver {o : SObj} {v : Nat} (h : ver o = some v) : live o = true := by cases o <;> first | rfl | cases h

theorem Rel.upd {κ : K} {σ : SW} {w w' : World} {s : Nat} {bi : BI} {o o' : SObj} {v : Nat} (hR : Rel κ σ w) (hk : κ s = some bi) (hg : σ.get s = some o) (hv : ver o = some v)
    (hv' : ∀ u, ver o' = some u → v < u) (hsz : w'.heap.size = w.heap.size) (hother : ∀ r, r ≠ bi.r → w'.heap[r]? = w.heap[r]?) (hos : w'.os = w.os) (ht : w'.tape = w.tape) (hout : w'.output = w.output)
    (hO : OR κ bi o' w'.heap[bi.r]?) (hb : σ.b ≤ s ∨ fz o = false := by exact .inr rfl) : Rel κ (σ.setObj s o') w' ∧ Post κ κ σ (σ.setObj s o') w w' := by
  have hl := live_of_ver hv
  have hsb : σ.b ≤ s := by
    rcases hb with h | h
    · exact h
    · rcases Nat.lt_or_ge s σ.b with hlt | hge
      · have := hR.old s o hlt hg hl
        rw [h] at this; cases this
      · exact hge
  refine ⟨⟨hR.base, fun x ox hx gx lx => ?_, fun s2 b2 h2 => ?_, hR.d0, fun s2 b2 o2 h2 g2 => ?_, fun s1 s2 b1 b2 o1 o2 k1 k2 g1 g2 l1 l2 hor hr => ?_, fun x hx => by have hd := (hR.dom _ _ hk).1; have hx : σ.n ≤ x := hx; rw [SW.get_setObj_ne (by omega)]; exact hR.top x hx⟩, ?_⟩
  · have hx' : x < σ.b := hx
    have hne : x ≠ s := by omega
    rw [SW.get_setObj_ne hne] at gx
    exact hR.old x ox hx' gx lx
  · rw [hsz]; exact hR.dom s2 b2 h2
  · by_cases hs : s2 = s
    · subst hs
      rw [hk] at h2; cases h2
      rw [SW.get_setObj_same g2]; exact hO
    · rw [SW.get_setObj_ne hs] at g2
      cases hl2 : live o2 with
      | false => cases o2 <;> first | (simp [live] at hl2; done) | trivial
      | true =>
        have hne : b2.r ≠ bi.r := fun e => hs (hR.inj s2 s b2 bi o2 o h2 hk g2 hg hl2 hl (.inr hsb) e)
        rw [hother _ hne]; exact hR.cont s2 b2 o2 h2 g2
  · have old : ∀ x b ox, κ x = some b → (σ.setObj s o').get x = some ox → live ox = true → ∃ ox', σ.get x = some ox' ∧ live ox' = true := by
      intro x b ox kx gx lx
      by_cases hx : x = s
      · subst hx; exact ⟨o, hg, hl⟩
      · rw [SW.get_setObj_ne hx] at gx; exact ⟨ox, gx, lx⟩
    obtain ⟨p1, q1, r1⟩ := old s1 b1 o1 k1 g1 l1
    obtain ⟨p2, q2, r2⟩ := old s2 b2 o2 k2 g2 l2
    exact hR.inj s1 s2 b1 b2 p1 p2 k1 k2 q1 q2 r1 r2 hor hr
  · exact {
      le := K.le_refl κ
      base := rfl
      news := fun x b h h' => by rw [h] at h'; cases h'
      n := Nat.le_refl _
      others := fun x _ h => SW.get_setObj_ne fun e => by rw [e, hk] at h; cases h
      size := by omega
      os := hos
      tape := ht
      output := hout
      keep := fun r hr hall => by
        by_cases hb : r = bi.r
        · obtain ⟨o'', h1, h2⟩ := hall s bi o v hk hg hb.symm hv
          have e := SW.get_setObj_same h1
          rw [e] at h2
          have := hv' v h2
          omega
        · exact hother r hb
      vers := fun x ox u _ hx hu => by
        by_cases hs : x = s
        · subst hs
          have e := SW.get_setObj_same hx
          rw [e] at hu
          exact ⟨o, v, hg, hv, Nat.le_of_lt (hv' u hu)⟩
        · rw [SW.get_setObj_ne hs] at hx
          exact ⟨ox, u, hx, hu, Nat.le_refl _⟩
      reuse := fun x b h h' => by rw [h] at h'; cases h' }

theorem Rel.fresh {κ : K} {σ : SW} {w : World} (hR : Rel κ σ w) : κ σ.n = none := by
  cases h : κ σ.n with
  | none => rfl
  | some b => have := (hR.dom _ _ h).1; omega

theorem heap_alloc_old (w : World) (o : Obj) {r : Nat} (h : r < w.heap.size) : (w.alloc o).heap[r]? = w.heap[r]? := by
  show (w.heap.push o)[r]? = _
  rw [Array.getElem?_push, if_neg (by omega)]
theorem heap_alloc_new (w : World) (o : Obj) : (w.alloc o).heap[w.heap.size]? = some o := by
  show (w.heap.push o)[w.heap.size]? = some o
  simp
theorem heap_alloc_size (w : World) (o : Obj) : (w.alloc o).heap.size = w.heap.size + 1 := by
  show (w.heap.push o).size = _
  simp

theorem Rel.new {κ : K} {σ : SW} {w : World} (hR : Rel κ σ w) (so : SObj) (o : Obj) (bi : BI) (hr : bi.r = w.heap.size) (hO : OR (κ.add σ.n bi) bi so (some o)) (hd : bi.d = 0 := by rfl) :
    Rel (κ.add σ.n bi) (σ.push so) (w.alloc o) ∧ Post κ (κ.add σ.n bi) σ (σ.push so) w (w.alloc o) := by
  have hf := hR.fresh
  have hle := K.le_add (bi := bi) hf
  have hkey : ∀ x b, κ.add σ.n bi x = some b → (x = σ.n ∧ b = bi) ∨ (x ≠ σ.n ∧ κ x = some b) := by
    intro x b h
    by_cases hx : x = σ.n
    · subst hx; rw [K.add_same] at h; cases h; exact .inl ⟨rfl, rfl⟩
    · rw [K.add_ne hx] at h; exact .inr ⟨hx, h⟩
  refine ⟨⟨by have := hR.base; show σ.b ≤ σ.n + 1; omega, fun x ox hx gx lx => ?_, fun x b h => ?_, fun x b h hxb => ?_, fun x b ox h g => ?_, fun s1 s2 b1 b2 o1 o2 k1 k2 g1 g2 l1 l2 hor hrr => ?_, fun x hx => by have hx : σ.n + 1 ≤ x := hx; rw [SW.get_push_ne (by omega)]; exact hR.top x (by omega)⟩, ?_⟩
  · have hx' : x < σ.b := hx
    have := hR.base
    rw [SW.get_push_ne (by omega)] at gx
    exact hR.old x ox hx' gx lx
  · rw [heap_alloc_size]
    rcases hkey x b h with ⟨rfl, rfl⟩ | ⟨_, h⟩
    · simp only [SW.push_n]; omega
    · have := hR.dom x b h; simp only [SW.push_n]; omega
  · rcases hkey x b h with ⟨rfl, rfl⟩ | ⟨_, h⟩
    · exact hd
    · exact hR.d0 x b h hxb
  · rcases hkey x b h with ⟨rfl, rfl⟩ | ⟨hx, h⟩
    · rw [SW.get_push_same g, hr, heap_alloc_new]; exact hO
    · rw [SW.get_push_ne hx] at g
      rw [heap_alloc_old _ _ (hR.dom x b h).2]
      exact (hR.cont x b ox h g).mono hle
  · rcases hkey s1 b1 k1 with ⟨e1, f1⟩ | ⟨h1, k1⟩ <;> rcases hkey s2 b2 k2 with ⟨e2, f2⟩ | ⟨h2, k2⟩
    · rw [e1, e2]
    · have := (hR.dom s2 b2 k2).2; rw [f1] at hrr; omega
    · have := (hR.dom s1 b1 k1).2; rw [f2] at hrr; omega
    · rw [SW.get_push_ne h1] at g1
      rw [SW.get_push_ne h2] at g2
      exact hR.inj s1 s2 b1 b2 o1 o2 k1 k2 g1 g2 l1 l2 hor hrr
  · exact {
      le := hle
      base := rfl
      news := fun x b h h' => by
        rcases hkey x b h' with ⟨rfl, _⟩ | ⟨_, h2⟩
        · exact Nat.le_refl _
        · rw [h] at h2; cases h2
      n := by simp
      others := fun x hx _ => SW.get_push_ne (by omega)
      size := by rw [heap_alloc_size]; omega
      os := rfl
      tape := rfl
      output := rfl
      keep := fun r hr _ => heap_alloc_old _ _ hr
      vers := fun x ox u hx g hu => by
        rw [SW.get_push_ne (by omega)] at g
        exact ⟨ox, u, g, hu, Nat.le_refl _⟩
      reuse := fun x b h h' hb => by
        rcases hkey x b h' with ⟨_, rfl⟩ | ⟨_, h2⟩
        · omega
        · rw [h] at h2; cases h2 }

/-! ## One cell -/
theorem cells_get {cr : Array Value} {c : List Value} {d i : Nat} {κ : K} {v' : Value} (h : F2 (V κ) ((cr.toList.drop d).take c.length) c) (hi : c[i]? = some v') :
    ∃ v, cr[i + d]? = some v ∧ V κ v v' := by
  obtain ⟨v, hv, hr⟩ := F2.get h hi
  refine ⟨v, ?_, hr⟩
  have hlt : i < c.length := by
    rcases Nat.lt_or_ge i c.length with h | h
    · exact h
    · rw [List.getElem?_eq_none h] at hi; cases hi
  rw [List.getElem?_take_of_lt hlt, List.getElem?_drop] at hv
  rw [Nat.add_comm]
  simpa using hv

theorem Rel.cell {κ : K} {σ : SW} {w : World} (hR : Rel κ σ w) {a a' : Addr} (ha : AR κ a a') {v' : Value} (h : σ.cell a' = some v') : ∃ v, w.cell? a = some v ∧ V κ v v' := by
  obtain ⟨bi, hk, rfl, hs⟩ := ha
  unfold SW.cell at h
  rw [hs] at h
  cases hg : σ.get a'.block with
  | none => rw [hg] at h; cases h
  | some o =>
    rw [hg] at h
    cases o with
    | cells c e x f ver =>
      obtain ⟨cr, fr, h1, _, _, h4, _⟩ := hR.cont _ _ _ hk hg
      obtain ⟨v, hv, hr⟩ := cells_get h4 h
      exact ⟨v, by simp [World.cell?, h1, hv], hr⟩
    | _ => cases h

theorem splice_rel {κ : K} {cr : List Value} {c : List Value} {d off : Nat} {vs vs' : List Value} (hlen : d + c.length ≤ cr.length) (h : F2 (V κ) ((cr.drop d).take c.length) c) (hv : F2 (V κ) vs vs')
    (hfit : off + vs'.length ≤ c.length) :
    F2 (V κ) (((cr.take (off + d) ++ (vs ++ cr.drop (off + d + vs.length))).drop d).take (splice c off vs').length) (splice c off vs') := by
  have hvl := hv.length
  have hcl : (splice c off vs').length = c.length := by
    simp only [Sh.splice, List.length_append, List.length_take, List.length_drop]; omega
  rw [hcl]
  have e : ((cr.take (off + d) ++ (vs ++ cr.drop (off + d + vs.length))).drop d).take c.length =
      ((cr.drop d).take c.length).take off ++ (vs ++ ((cr.drop d).take c.length).drop (off + vs'.length)) := by
    apply List.ext_getElem?
    intro i
    simp only [List.getElem?_take, List.getElem?_drop, List.getElem?_append, List.length_take, List.length_drop]
    by_cases hi : i < c.length
    · by_cases h1 : i < off
      · have a1 : d + i < min (off + d) cr.length := by omega
        have a2 : i < min off (min c.length (cr.length - d)) := by omega
        simp only [hi, a1, a2, if_true]
        have a3 : d + i < off + d := by omega
        simp [a3, h1]
      · have a1 : ¬ d + i < min (off + d) cr.length := by omega
        have a2 : ¬ i < min off (min c.length (cr.length - d)) := by omega
        simp only [hi, a1, a2, if_true, if_false]
        have e1 : d + i - min (off + d) cr.length = i - min off (min c.length (cr.length - d)) := by omega
        rw [e1]
        by_cases h2 : i - min off (min c.length (cr.length - d)) < vs.length
        · simp [h2]
        · simp only [h2, if_false]
          have a4 : off + vs'.length + (i - min off (min c.length (cr.length - d)) - vs.length) < c.length := by omega
          simp only [a4, if_true]
          congr 1
          omega
    · have a1 : ¬ i < c.length := hi
      simp only [a1, if_false]
      have a2 : ¬ i < min off (min c.length (cr.length - d)) := by omega
      simp only [a2, if_false]
      have a3 : ¬ i - min off (min c.length (cr.length - d)) < vs.length := by omega
      simp only [a3, if_false]
      have a4 : ¬ off + vs'.length + (i - min off (min c.length (cr.length - d)) - vs.length) < c.length := by omega
      simp [a4]
  rw [e]
  exact (h.take off).append (hv.append (h.drop _))
end Go.Sh

namespace Go.Sh
open Go

/-- New objects, real and shadow. -/
inductive NR (κ : K) : Obj → Obj → Prop
  | cells {c c' : Array Value} {e : TypeId} : VA κ c c' → NR κ (.cells c e (0, 0)) (.cells c' e (0, 0))
  | iter (s : ByteArray) (p : Nat) : NR κ (.stringIter s p) (.stringIter s p)
  | map {es es' : Array MapEntry} {clk : Nat} : F2 (ER κ) es.toList es'.toList → NR κ (.map es clk) (.map es' clk)

theorem NR.mono {κ κ' : K} {o o' : Obj} (h : NR κ o o') (hk : K.le κ κ') : NR κ' o o' := by
  cases h with
  | cells h => exact .cells (h.mono hk)
  | iter s p => exact .iter s p
  | map h => exact .map (F2.mono h fun _ _ h => h.mono hk)

def BR (κ : K) (r s : Nat) : Prop := ∃ bi, κ s = some bi ∧ bi.r = r

theorem BR.mono {κ κ' : K} {r s : Nat} (h : BR κ r s) (hk : K.le κ κ') : BR κ' r s := by
  obtain ⟨bi, h, e⟩ := h
  exact ⟨bi, hk _ _ h, e⟩

/-- The real tree, the shadow tree: they go the same way as long as the shadow's goes at all. -/
inductive TR (P : Program) {α β : Type} (R : K → α → β → Prop) : K → Sem α → Sem β → Prop
  | pure {κ : K} {a : α} {b : β} : R κ a b → TR P R κ (.pure a) (.pure b)
  | load {κ : K} {m m' : Mode} {a a' : Addr} {k : Value → Sem α} {k' : Value → Sem β} : AR κ a a' → (∀ v v', V κ v v' → TR P R κ (k v) (k' v')) → TR P R κ (.load m a k) (.load m' a' k')
  | store {κ : K} {m m' : Mode} {a a' : Addr} {v v' : Value} {k : Sem α} {k' : Sem β} : AR κ a a' → V κ v v' → TR P R κ k k' → TR P R κ (.store m a v k) (.store m' a' v' k')
  | new {κ : K} {o o' : Obj} {k : Nat → Sem α} {k' : Nat → Sem β} : NR κ o o' → (∀ κ' r s, K.le κ κ' → (∃ bi, κ' s = some bi ∧ bi.r = r ∧ bi.d = 0) → TR P R κ' (k r) (k' s)) → TR P R κ (.new o k) (.new o' k')
  | shape {κ : K} {r s : Nat} {k : Option (TypeId × Nat) → Sem α} {k' : Option (TypeId × Nat) → Sem β} (bi : BI) : κ s = some bi → bi.r = r →
      (∀ x, (x.isSome = true → bi.d = 0) → TR P R κ (k x) (k' x)) → TR P R κ (.shape r k) (.shape s k')
  | getObj {κ : K} {r s : Nat} {k : Obj → Sem α} {k' : Obj → Sem β} : BR κ r s → (∀ o o', NR κ o o' → TR P R κ (k o) (k' o')) → TR P R κ (.getObj r k) (.getObj s k')
  | setObj {κ : K} {r s : Nat} {o o' : Obj} {k : Sem α} {k' : Sem β} : BR κ r s → NR κ o o' → TR P R κ k k' → TR P R κ (.setObj r o k) (.setObj s o' k')
  | choose {κ : K} {q : Question} {k : Nat → Sem α} {k' : Nat → Sem β} : TR P R κ (k 0) (k' 0) → TR P R κ (.choose q k) (.choose q k')
  | program {κ : K} {k : Program → Sem α} {k' : Program → Sem β} : TR P R κ (k P) (k' P) → TR P R κ (.program k) (.program k')
  | mark {κ : K} {m m' : Mark} {k : Sem α} {k' : Sem β} : TR P R κ k k' → TR P R κ (.mark m k) (.mark m' k')
  | fails {κ : K} {t : Sem α} {t' : Sem β} : (∀ σ, srun P t' σ = none) → TR P R κ t t'

theorem Rel.put {κ : K} {σ σ' : SW} {w : World} (hR : Rel κ σ w) {a a' : Addr} (ha : AR κ a a') {v v' : Value} (hv : V κ v v') (h : σ.put a' v' = some σ') :
    (∃ u, w.cell? a = some u) ∧ w.frozen? a = false ∧ Rel κ σ' (w.setCell a v) ∧ Post κ κ σ σ' w (w.setCell a v) := by
  obtain ⟨bi, hk, rfl, hs⟩ := ha
  unfold SW.put at h
  rw [hs] at h
  cases hg : σ.get a'.block with
  | none => rw [hg] at h; cases h
  | some o =>
    rw [hg] at h
    cases o with
    | cells c e x f ver =>
      cases f with
      | true => cases h
      | false =>
        simp only at h
        cases hlt : Nat.blt a'.off c.length with
        | false => rw [hlt] at h; cases h
        | true =>
          rw [hlt] at h
          simp only [cond_true, Option.some.injEq] at h
          have hlt' : a'.off < c.length := by simpa [Nat.blt_eq] using hlt
          obtain ⟨cr, fr, h1, h2, h3, h4, h5, h6⟩ := hR.cont _ _ _ hk hg
          have hidx : a'.off + bi.d < cr.size := by omega
          have hcell : w.cell? ⟨bi.r, a'.off + bi.d, none⟩ = some cr[a'.off + bi.d] := by simp [World.cell?, h1, hidx]
          have hfr : w.frozen? ⟨bi.r, a'.off + bi.d, none⟩ = false := by
            simp only [World.frozen?, h1]
            rcases h6 rfl with h | h
            · simp only [Bool.and_eq_false_iff, decide_eq_false_iff_not]; omega
            · simp only [Bool.and_eq_false_iff, decide_eq_false_iff_not]; omega
          have hblk : bi.r < w.heap.size := (hR.dom _ _ hk).2
          have hnew : (w.setCell ⟨bi.r, a'.off + bi.d, none⟩ v).heap[bi.r]? = some (.cells (cr.setIfInBounds (a'.off + bi.d) v) e fr) := by
            simp only [World.setCell]
            rw [Array.getElem?_modify]
            simp [h1]
          refine ⟨⟨_, hcell⟩, hfr, ?_⟩
          subst h
          refine hR.upd hk hg (v := ver) rfl ?_ ?_ ?_ rfl rfl rfl ?_
          · intro u hu
            simp only [Sh.ver, Option.some.injEq] at hu
            omega
          · simp [World.setCell]
          · intro r hr
            simp only [World.setCell]
            rw [Array.getElem?_modify]
            simp [Ne.symm hr]
          · refine ⟨_, fr, hnew, by simp [h2], by simp; omega, ?_, ?_, ?_⟩
            · have hsp := splice_rel (vs := [v]) (vs' := [v']) (off := a'.off) (cr := cr.toList) (c := c) (d := bi.d) (by simpa using h3) h4 (.cons hv .nil) (by simp; omega)
              have e1 : splice c a'.off [v'] = c.set a'.off v' := by
                rw [splice, List.set_eq_take_append_cons_drop]
                simp [hlt']
              have e2 : cr.toList.take (a'.off + bi.d) ++ ([v] ++ cr.toList.drop (a'.off + bi.d + 1)) = (cr.setIfInBounds (a'.off + bi.d) v).toList := by
                rw [Array.toList_setIfInBounds, List.set_eq_take_append_cons_drop]
                simp [hidx]
              rw [e1] at hsp
              simp only [List.length_singleton] at hsp
              rw [e2] at hsp
              exact hsp
            · intro hx
              obtain ⟨h7, h8⟩ := h5 hx
              exact ⟨h7, by simp [h8]⟩
            · intro hf
              simpa using h6 rfl
    | _ => cases h

theorem Rel.getObj {κ : K} {σ : SW} {w : World} (hR : Rel κ σ w) {r s : Nat} (hb : BR κ r s) :
    (∀ str p v, σ.get s = some (.iter str p v) → w.heap[r]? = some (.stringIter str p)) ∧
    (∀ es c v, σ.get s = some (.map es c v) → ∃ es', w.heap[r]? = some (.map es' c) ∧ F2 (ER κ) es'.toList es.toList) := by
  obtain ⟨bi, hk, rfl⟩ := hb
  refine ⟨fun str p v hg => (hR.cont _ _ _ hk hg).1, fun es c v hg => ?_⟩
  exact hR.cont _ _ _ hk hg

theorem heap_set_size (w : World) (r : Nat) (o : Obj) : (w.putObj r o).heap.size = w.heap.size := by simp [World.putObj]
theorem heap_set_ne (w : World) {r x : Nat} (o : Obj) (h : x ≠ r) : (w.putObj r o).heap[x]? = w.heap[x]? := by
  simp [World.putObj, Array.getElem?_setIfInBounds_ne (Ne.symm h)]
theorem heap_set_same (w : World) {r : Nat} (o : Obj) (h : r < w.heap.size) : (w.putObj r o).heap[r]? = some o := by simp [World.putObj, h]

theorem TR.run {P : Program} {α β : Type} {R : K → α → β → Prop} {κ : K} {t : Sem α} {t' : Sem β} (h : TR P R κ t t') :
    ∀ (σ : SW) (w : World) (b : β) (σ' : SW), Rel κ σ w → srun P t' σ = some (b, σ') →
      ∃ a w' κ', t.run P w = .ok a w' ∧ R κ' a b ∧ Rel κ' σ' w' ∧ Post κ κ' σ σ' w w' := by
  induction h with
  | pure h =>
    intro σ w b σ' hR hs
    simp only [srun, Option.some.injEq, Prod.mk.injEq] at hs
    obtain ⟨rfl, rfl⟩ := hs
    exact ⟨_, w, _, rfl, h, hR, Post.refl _ _ _⟩
  | load ha _ ih =>
    intro σ w b σ' hR hs
    simp only [srun] at hs
    cases hc : σ.cell _ with
    | none => rw [hc] at hs; cases hs
    | some v' =>
      rw [hc] at hs
      obtain ⟨v, hv, hvv⟩ := hR.cell ha hc
      obtain ⟨x, w', κ', hrun, hx⟩ := ih v v' hvv σ w b σ' hR hs
      exact ⟨x, w', κ', by simp only [Sem.run, hv]; exact hrun, hx⟩
  | @store κ m m' a a' v v' k k' ha hv _ ih =>
    intro σ w b σ' hR hs
    simp only [srun] at hs
    cases ho : Sh.oneCell v' with
    | false => rw [ho] at hs; cases hs
    | true =>
      rw [ho] at hs
      cases hp : σ.put a' v' with
      | none => rw [hp] at hs; cases hs
      | some σ1 =>
        rw [hp] at hs
        obtain ⟨⟨u, hu⟩, hf, hR1, hP1⟩ := hR.put ha hv hp
        obtain ⟨x, w', κ', hrun, hx, hR', hP⟩ := ih σ1 _ b σ' hR1 hs
        refine ⟨x, w', κ', ?_, hx, hR', Post.trans (fun s bi h => (hR.dom s bi h).1) (fun s bi h => (hR1.dom s bi h).1) hP1 hP⟩
        rw [← hv.oneCell] at ho
        cases v <;> first | (simp [Sh.oneCell] at ho; done) | (simp only [Sem.run, hu, hf]; exact hrun)
  | @new κ o o' k k' hn _ ih =>
    intro σ w b σ' hR hs
    simp only [srun] at hs
    have go : ∀ (so : SObj) (sz : Nat), OR (κ.add σ.n ⟨w.heap.size, 0, sz⟩) ⟨w.heap.size, 0, sz⟩ so (some o) → srun P (k' σ.n) (σ.push so) = some (b, σ') →
        ∃ a w' κ', (Sem.new o k).run P w = .ok a w' ∧ R κ' a b ∧ Rel κ' σ' w' ∧ Post κ κ' σ σ' w w' := by
      intro so sz hO hs
      obtain ⟨hR1, hP1⟩ := hR.new so o ⟨w.heap.size, 0, sz⟩ rfl hO
      obtain ⟨x, w', κ', hrun, hx, hR', hP⟩ := ih _ w.heap.size σ.n hP1.le ⟨_, K.add_same _ _ _, rfl, rfl⟩ _ _ b σ' hR1 hs
      exact ⟨x, w', κ', hrun, hx, hR', Post.trans (fun s bi h => (hR.dom s bi h).1) (fun s bi h => (hR1.dom s bi h).1) hP1 hP⟩
    have hle : K.le κ (κ.add σ.n ⟨w.heap.size, 0, 0⟩) := K.le_add hR.fresh
    cases hn with
    | @cells c c' e hc =>
      simp only at hs
      refine go _ c.size ?_ hs
      have hc' : VA (κ.add σ.n ⟨w.heap.size, 0, c.size⟩) c c' := hc.mono (K.le_add hR.fresh)
      have hl : c.toList.length = c'.toList.length := F2.length hc
      refine ⟨c, (0, 0), rfl, rfl, by simp only [Nat.zero_add]; simp at hl; simp; omega, ?_, fun _ => ⟨rfl, by simp at hl; simp [hl]⟩, fun _ => .inl rfl⟩
      simp only [List.drop_zero]
      rw [← hl, List.take_length]
      exact hc'
    | iter s p =>
      simp only at hs
      exact go (.iter s p 0) 0 ⟨rfl, rfl⟩ hs
    | map hm =>
      simp only at hs
      exact go (.map _ _ 0) 0 ⟨_, rfl, F2.mono hm fun _ _ h => h.mono hle⟩ hs
  | @shape κ r s k k' bi hk hbr _ ih =>
    intro σ w b σ' hR hs
    simp only [srun] at hs
    have go : ∀ x, (x.isSome = true → bi.d = 0) → w.shape? r = x → srun P (k' x) σ = some (b, σ') → ∃ a w' κ', (Sem.shape r k).run P w = .ok a w' ∧ R κ' a b ∧ Rel κ' σ' w' ∧ Post κ κ' σ σ' w w' := by
      intro x hd hx hs
      obtain ⟨y, w', κ', hrun, hy⟩ := ih x hd σ w b σ' hR hs
      exact ⟨y, w', κ', by simp only [Sem.run, hx]; exact hrun, hy⟩
    cases hg : σ.get s with
    | none => rw [hg] at hs; cases hs
    | some o =>
      rw [hg] at hs
      have hO := hR.cont _ _ _ hk hg
      subst hbr
      cases o with
      | cells c e x f ver =>
        cases x with
        | false => cases hs
        | true =>
          obtain ⟨cr, fr, h1, _, _, _, h5, _⟩ := hO
          refine go _ (fun _ => (h5 rfl).1) ?_ hs
          simp [World.shape?, h1, (h5 rfl).2]
      | iter str p v => exact go _ (fun h => by simp at h) (by simp [World.shape?, hO.1]) hs
      | map es c v =>
        obtain ⟨es', h1, _⟩ := hO
        exact go _ (fun h => by simp at h) (by simp [World.shape?, h1]) hs
      | _ => cases hs
  | @getObj κ r s k k' hb _ ih =>
    intro σ w b σ' hR hs
    simp only [srun] at hs
    have hh := hR.getObj hb
    cases hg : σ.get s with
    | none => rw [hg] at hs; cases hs
    | some o =>
      rw [hg] at hs
      cases o with
      | iter str p v =>
        obtain ⟨y, w', κ', hrun, hy⟩ := ih _ _ (.iter str p) σ w b σ' hR hs
        exact ⟨y, w', κ', by simp only [Sem.run, hh.1 str p v hg]; exact hrun, hy⟩
      | map es c v =>
        obtain ⟨es', h1, h2⟩ := hh.2 es c v hg
        obtain ⟨y, w', κ', hrun, hy⟩ := ih _ _ (.map h2) σ w b σ' hR hs
        exact ⟨y, w', κ', by simp only [Sem.run, h1]; exact hrun, hy⟩
      | _ => cases hs
  | @setObj κ r s o o' k k' hb hn _ ih =>
    intro σ w b σ' hR hs
    simp only [srun] at hs
    have hh := hR.getObj hb
    obtain ⟨bi, hk, rfl⟩ := hb
    have hlt := (hR.dom _ _ hk).2
    cases hg : σ.get s with
    | none => rw [hg] at hs; cases hs
    | some ob =>
      rw [hg] at hs
      cases hn with
      | cells hc => cases ob <;> cases hs
      | iter str p =>
        cases ob with
        | iter str0 p0 v =>
          simp only at hs
          have hreal := hh.1 _ _ _ hg
          have hd0 := (hR.cont _ _ _ hk hg).2
          obtain ⟨hR1, hP1⟩ := hR.upd (w' := w.putObj bi.r (.stringIter str p)) (o' := .iter str p (v + 1)) hk hg (v := v) rfl (by intro u hu; simp only [Sh.ver, Option.some.injEq] at hu; omega)
            (heap_set_size _ _ _) (fun x hx => heap_set_ne _ _ hx) rfl rfl rfl ⟨heap_set_same _ _ hlt, hd0⟩
          obtain ⟨y, w', κ', hrun, hy, hR', hP⟩ := ih _ _ b σ' hR1 hs
          exact ⟨y, w', κ', by simp only [Sem.run, hreal]; exact hrun, hy, hR', Post.trans (fun s bi h => (hR.dom s bi h).1) (fun s bi h => (hR1.dom s bi h).1) hP1 hP⟩
        | _ => cases hs
      | @map es es' clk hm =>
        cases ob with
        | map es0 c0 v =>
          simp only at hs
          obtain ⟨es1, hreal, _⟩ := hh.2 _ _ _ hg
          obtain ⟨hR1, hP1⟩ := hR.upd (w' := w.putObj bi.r (.map es clk)) (o' := .map es' clk (v + 1)) hk hg (v := v) rfl (by intro u hu; simp only [Sh.ver, Option.some.injEq] at hu; omega)
            (heap_set_size _ _ _) (fun x hx => heap_set_ne _ _ hx) rfl rfl rfl ⟨es, heap_set_same _ _ hlt, hm⟩
          obtain ⟨y, w', κ', hrun, hy, hR', hP⟩ := ih _ _ b σ' hR1 hs
          exact ⟨y, w', κ', by simp only [Sem.run, hreal]; exact hrun, hy, hR', Post.trans (fun s bi h => (hR.dom s bi h).1) (fun s bi h => (hR1.dom s bi h).1) hP1 hP⟩
        | _ => cases hs
  | @choose κ q k k' _ ih =>
    intro σ w b σ' hR hs
    simp only [srun] at hs
    cases hq : q.forced with
    | false => rw [hq] at hs; cases hs
    | true =>
      rw [hq] at hs
      obtain ⟨y, w', κ', hrun, hy⟩ := ih σ w b σ' hR hs
      exact ⟨y, w', κ', by simp only [Sem.run, hq]; exact hrun, hy⟩
  | program _ ih =>
    intro σ w b σ' hR hs
    simp only [srun] at hs
    obtain ⟨y, w', κ', hrun, hy⟩ := ih σ w b σ' hR hs
    exact ⟨y, w', κ', by simp only [Sem.run]; exact hrun, hy⟩
  | mark _ ih =>
    intro σ w b σ' hR hs
    simp only [srun] at hs
    obtain ⟨y, w', κ', hrun, hy⟩ := ih σ w b σ' hR hs
    exact ⟨y, w', κ', by simp only [Sem.run]; exact hrun, hy⟩
  | fails hf => intro σ w b σ' hR hs; rw [hf] at hs; cases hs

theorem srun_bind {P : Program} {α β : Type} (t : Sem α) (f : α → Sem β) : ∀ σ, srun P (t.bind f) σ = match srun P t σ with | some (a, σ') => srun P (f a) σ' | none => none := by
  induction t with
  | pure a => intro σ; rfl
  | load m a k ih => intro σ; simp only [Sem.bind, srun]; cases σ.cell a <;> simp [ih]
  | store m a v k ih => intro σ; simp only [Sem.bind, srun]; cases Sh.oneCell v <;> cases σ.put a v <;> simp [ih]
  | new o k ih =>
    intro σ; simp only [Sem.bind, srun]
    cases o <;> simp [ih]
    rename_i fz
    obtain ⟨a, b⟩ := fz
    cases a <;> cases b <;> simp
  | shape r k ih =>
    intro σ; simp only [Sem.bind, srun]
    cases σ.get r with
    | none => rfl
    | some o => cases o <;> simp [ih]; rename_i x _ _; cases x <;> simp
  | freeze a n k ih => intro σ; rfl
  | frozen a k ih => intro σ; rfl
  | getObj r k ih =>
    intro σ; simp only [Sem.bind, srun]
    cases σ.get r with
    | none => rfl
    | some o => cases o <;> simp [ih]
  | setObj r o k ih =>
    intro σ; simp only [Sem.bind, srun]
    cases σ.get r with
    | none => rfl
    | some ob => cases ob <;> cases o <;> simp [ih]
  | choose q k ih => intro σ; simp only [Sem.bind, srun]; cases q.forced <;> simp [ih]
  | sys c k ih => intro σ; rfl
  | program k ih => intro σ; simp [Sem.bind, srun, ih]
  | mark m k ih => intro σ; simp [Sem.bind, srun, ih]
  | halt h => intro σ; rfl

theorem TR.mono {P : Program} {α β : Type} {R R' : K → α → β → Prop} {κ : K} {t : Sem α} {t' : Sem β} (h : TR P R κ t t') (hr : ∀ κ' a b, K.le κ κ' → R κ' a b → R' κ' a b) : TR P R' κ t t' := by
  induction h with
  | pure h => exact .pure (hr _ _ _ (K.le_refl _) h)
  | load ha _ ih => exact .load ha fun v v' hv => ih v v' hv hr
  | store ha hv _ ih => exact .store ha hv (ih hr)
  | new hn _ ih => exact .new hn fun κ' r s hk hb => ih κ' r s hk hb fun κ'' a b hk' => hr κ'' a b (K.le_trans hk hk')
  | shape bi hk hb _ ih => exact .shape bi hk hb fun x hd => ih x hd hr
  | getObj hb _ ih => exact .getObj hb fun o o' hn => ih o o' hn hr
  | setObj hb hn _ ih => exact .setObj hb hn (ih hr)
  | choose _ ih => exact .choose (ih hr)
  | program _ ih => exact .program (ih hr)
  | mark _ ih => exact .mark (ih hr)
  | fails h => exact .fails h

theorem TR.bind {P : Program} {α β γ δ : Type} {R : K → α → β → Prop} {S : K → γ → δ → Prop} {κ : K} {t : Sem α} {t' : Sem β} {f : α → Sem γ} {f' : β → Sem δ} (h : TR P R κ t t')
    (hf : ∀ κ' a b, K.le κ κ' → R κ' a b → TR P S κ' (f a) (f' b)) : TR P S κ (t >>= f) (t' >>= f') := by
  show TR P S κ (t.bind f) (t'.bind f')
  induction h with
  | pure h => exact hf _ _ _ (K.le_refl _) h
  | load ha _ ih => exact .load ha fun v v' hv => ih v v' hv hf
  | store ha hv _ ih => exact .store ha hv (ih hf)
  | new hn _ ih => exact .new hn fun κ' r s hk hb => ih κ' r s hk hb fun κ'' a b hk' => hf κ'' a b (K.le_trans hk hk')
  | shape bi hk hb _ ih => exact .shape bi hk hb fun x hd => ih x hd hf
  | getObj hb _ ih => exact .getObj hb fun o o' hn => ih o o' hn hf
  | setObj hb hn _ ih => exact .setObj hb hn (ih hf)
  | choose _ ih => exact .choose (ih hf)
  | program _ ih => exact .program (ih hf)
  | mark _ ih => exact .mark (ih hf)
  | fails h => exact .fails fun σ => by rw [srun_bind, h]
end Go.Sh
