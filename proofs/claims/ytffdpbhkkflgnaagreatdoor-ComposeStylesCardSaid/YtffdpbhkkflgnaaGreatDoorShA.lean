/- A second reading of the model, the shadow, is defined: a run over a heap without a tape. Conditions: none. -/
import GoSem.Machine.Frame

namespace Go.Sh

/-! ## Persistent maps -/
inductive T (α : Type) where
  | nil
  | node (v : Option α) (l r : T α)
  deriving Inhabited

namespace T
variable {α : Type}

noncomputable def get (t : T α) : Nat → Option α :=
  T.rec (motive := fun _ => Nat → Option α) (fun _ => none)
    (fun v _ _ gl gr i => Bool.rec (Bool.rec (gr (Nat.sub (Nat.div i (nat_lit 2)) (nat_lit 1))) (gl (Nat.div i (nat_lit 2))) (Nat.beq (Nat.mod i (nat_lit 2)) (nat_lit 1))) v (Nat.beq i (nat_lit 0))) t

noncomputable def single (f : Nat) : Nat → α → T α :=
  Nat.rec (motive := fun _ => Nat → α → T α) (fun _ _ => .nil)
    (fun _ g i a => Bool.rec (Bool.rec (.node none .nil (g (Nat.sub (Nat.div i (nat_lit 2)) (nat_lit 1)) a)) (.node none (g (Nat.div i (nat_lit 2)) a) .nil) (Nat.beq (Nat.mod i (nat_lit 2)) (nat_lit 1))) (.node (some a) .nil .nil) (Nat.beq i (nat_lit 0))) f

noncomputable def set (f : Nat) (t : T α) : Nat → α → T α :=
  T.rec (motive := fun _ => Nat → α → T α) (fun i a => single f i a)
    (fun v l r gl gr i a => Bool.rec (Bool.rec (.node v l (gr (Nat.sub (Nat.div i (nat_lit 2)) (nat_lit 1)) a)) (.node v (gl (Nat.div i (nat_lit 2)) a) r) (Nat.beq (Nat.mod i (nat_lit 2)) (nat_lit 1))) (.node (some a) l r) (Nat.beq i (nat_lit 0))) t
end T

/-! ## The shadow heap -/
inductive SObj where
  | cells (c : List Value) (elem : TypeId) (exact frz : Bool) (ver : Nat)
  | iter (s : ByteArray) (pos : Nat) (ver : Nat)
  | map (es : Array MapEntry) (clock : Nat) (ver : Nat)
  | loop (state : LoopState) (pending : Option Code) (t : T Value) (n : Nat) (params : Array Tmp) (assign body : Code) (defers : Nat) (ver : Nat)
  | deferred (ver : Nat)
  | spent
  | dead
  deriving Inhabited

structure SW where
  h : T SObj
  n : Nat
  b : Nat
  deriving Inhabited

noncomputable def bits : Nat := 24

namespace SW
noncomputable def get (σ : SW) (s : Nat) : Option SObj := σ.h.get s
noncomputable def push (σ : SW) (o : SObj) : SW := ⟨σ.h.set bits σ.n o, σ.n + 1, σ.b⟩
noncomputable def setObj (σ : SW) (s : Nat) (o : SObj) : SW := ⟨σ.h.set bits s o, σ.n, σ.b⟩
noncomputable def cell (σ : SW) (a : Addr) : Option Value :=
  match a.spot, σ.get a.block with
  | none, some (.cells c _ _ _ _) => c[a.off]?
  | _, _ => none
noncomputable def put (σ : SW) (a : Addr) (v : Value) : Option SW :=
  match a.spot, σ.get a.block with
  | none, some (.cells c e x false ver) => bif Nat.blt a.off c.length then some (σ.setObj a.block (.cells (c.set a.off v) e x false (ver + 1))) else none
  | _, _ => none
end SW

noncomputable def oneCell : Value → Bool
  | .agg _ | .tuple _ => false
  | _ => true

/-! ## Another handler of the model's trees -/
noncomputable def srun (P : Program) {α : Type} : Sem α → SW → Option (α × SW)
  | .pure a, σ => some (a, σ)
  | .load _ a k, σ => match σ.cell a with
    | some v => srun P (k v) σ
    | none => none
  | .store _ a v k, σ => match oneCell v, σ.put a v with
    | true, some σ' => srun P k σ'
    | _, _ => none
  | .new o k, σ => match o with
    | .cells c e fz => match fz with
      | (0, 0) => srun P (k σ.n) (σ.push (.cells c.toList e true false 0))
      | _ => none
    | .stringIter s p => srun P (k σ.n) (σ.push (.iter s p 0))
    | .map es c => srun P (k σ.n) (σ.push (.map es c 0))
    | _ => none
  | .shape r k, σ => match σ.get r with
    | some (.cells c e true _ _) => srun P (k (some (e, c.length))) σ
    | some (.iter ..) | some (.map ..) => srun P (k none) σ
    | _ => none
  | .freeze _ _ _, _ => none
  | .frozen _ _, _ => none
  | .getObj r k, σ => match σ.get r with
    | some (.iter s p _) => srun P (k (.stringIter s p)) σ
    | some (.map es c _) => srun P (k (.map es c)) σ
    | _ => none
  | .setObj r o k, σ => match σ.get r, o with
    | some (.iter _ _ v), .stringIter s p => srun P k (σ.setObj r (.iter s p (v + 1)))
    | some (.map _ _ v), .map es c => srun P k (σ.setObj r (.map es c (v + 1)))
    | _, _ => none
  | .choose q k, σ => match q.forced with
    | true => srun P (k 0) σ
    | false => none
  | .sys _ _, _ => none
  | .program k, σ => srun P (k P) σ
  | .mark _ k, σ => srun P k σ
  | .halt _, _ => none

/-! ## Activations -/
structure SAct where
  t : T Value
  n : Nat
  marks : List Nat

noncomputable def SAct.eval (a : SAct) : Operand → Value
  | .tmp t => (a.t.get t).getD undef
  | .const v => v
  | .global g => .pointer (some ⟨g, 0, none⟩)
  | .func f => .func (.func f) #[] #[]

noncomputable def SAct.put (a : SAct) (dst : Option Tmp) (v : Value) : Option SAct :=
  match a, dst with
  | a, none => some a
  | ⟨t, n, ms⟩, some d => bif Nat.blt d n then some ⟨t.set bits d v, n, ms⟩ else none

noncomputable def ofArgs : List Value → Nat → T Value → T Value
  | [], _, t => t
  | v :: vs, i, t => ofArgs vs (i + 1) (t.set bits i v)

inductive SEntry where
  | fn (f : FuncId) (args : Array Value)
  | round (l : Nat) (args : Array Value)

inductive SExt where
  | sem (e : Array Value → Sem Value)
  | makeNoZero (elem : TypeId)

structure Env where
  P : Program
  ext : FuncId → Option SExt
  nt : Nat
  nf : Nat

noncomputable def sguarded {α : Type} (b : Bool) (x : Option α) : Option α :=
  match b with
  | true => x
  | false => none

abbrev SCall := SEntry → SW → Option (Value × SW)

/-! ## Operations with a reading of their own -/
noncomputable def big : Nat := 2 ^ 46

noncomputable def loadList (σ : SW) (a : Addr) (n : Nat) : Option (List Value) :=
  match a.spot, σ.get a.block with
  | none, some (.cells c _ _ _ _) => bif Nat.ble (a.off + n) c.length then some ((c.drop a.off).take n) else none
  | _, _ => none

noncomputable def byteList (s : ByteArray) : List Value := s.data.toList.map fun b => .int .u8 b.toNat

noncomputable def rep : Nat → List Value → List Value
  | 0, _ => []
  | n + 1, z => z ++ rep n z

noncomputable def allOne : List Value → Bool
  | [] => true
  | v :: r => match oneCell v with
    | true => allOne r
    | false => false

noncomputable def szeros (P : Program) : Option TypeId → Option Bool
  | none => some false
  | some t => match P.underlying t with
    | some (.int _) => some true
    | some _ => some false
    | none => none

noncomputable def snews (σ : SW) (size : Nat) (z : List Value) (zs : Bool) (x : Value) : Option (Nat × List Value) :=
  match zs, x with
  | true, .int _ l => bif decide (0 ≤ l) && decide (l ≤ big) then some (l.toNat, rep l.toNat z) else none
  | false, .slice (some b) m _ => match loadList σ b (m * size) with
    | some l => some (m, l)
    | none => none
  | false, .slice none _ _ => some (0, [])
  | false, .string s => some (s.data.toList.length, byteList s)
  | _, _ => none

noncomputable def sgrow (σ : SW) (elem : TypeId) (size : Nat) (base : Option Addr) (sLen e n : Nat) (news : List Value) : Option (Value × SW) :=
  match base with
  | none => some (.slice (some ⟨σ.n, 0, none⟩) n size, σ.push (.cells news elem false false 0))
  | some a =>
    match a.spot, σ.get a.block with
    | none, some (.cells c elem' _ false _) =>
      bif Nat.beq elem elem' && Nat.beq e size && Nat.beq a.off 0 && Nat.ble (a.off + sLen * size) c.length && Nat.ble σ.b a.block then
        some (.slice (some ⟨σ.n, 0, none⟩) (sLen + n) size,
          (σ.setObj a.block .dead).push (.cells ((c.drop a.off).take (sLen * size) ++ news) elem false false 0))
      else none
    | _, _ => none

noncomputable def sappend (E : Env) (argTypes : Array TypeId) (args : Array Value) (σ : SW) : Option (Value × SW) :=
  match argTypes[0]?, args[0]?, args[1]? with
  | some sType, some (Value.slice base sLen e), some x =>
    match E.P.underlying sType with
    | some (.slice elem) =>
      match E.P.info? elem with
      | some info => sguarded (Nat.blt elem E.nt) <|
        match szeros E.P argTypes[1]?, info.zero with
        | some zs, some z =>
          match snews σ info.size z.cells.toList zs x with
          | some (0, _) => some (.slice base sLen e, σ)
          | some (n + 1, news) =>
            bif Nat.ble ((sLen + (n + 1)) * (info.bytes + 1)) big && Nat.blt 0 info.size && Nat.blt 0 info.bytes && Nat.beq z.cells.toList.length info.size && Nat.beq news.length ((n + 1) * info.size) && allOne news then
              sgrow σ elem info.size base sLen e (n + 1) news
            else none
          | none => none
        | _, _ => none
      | none => none
    | _ => none
  | _, _, _ => none

noncomputable def natOf : Option Value → Nat → Option Nat
  | none, d => some d
  | some (.int _ i), _ => bif decide (0 ≤ i) then some i.toNat else none
  | _, _ => none

noncomputable def aggB (P : Program) (t : TypeId) : Option Bool :=
  match P.underlying t with
  | some (.struct _) | some (.array _ _) => some true
  | some _ => some false
  | none => none

noncomputable def sload (E : Env) (t : TypeId) (x : Value) (σ : SW) : Option (Value × SW) :=
  match x with
  | .pointer (some p) => match aggB E.P t, E.P.info? t with
    | some true, some i => match loadList σ p i.size with
      | some l => some (.agg ⟨l⟩, σ)
      | none => none
    | some false, _ => match σ.cell p with
      | some v => some (v, σ)
      | none => none
    | _, _ => none
  | _ => none

noncomputable def splice (c : List Value) (off : Nat) (vs : List Value) : List Value := c.take off ++ (vs ++ c.drop (off + vs.length))

noncomputable def sstore (E : Env) (t : TypeId) (x v : Value) (σ : SW) : Option SW :=
  match x, E.P.info? t with
  | .pointer (some p), some i =>
    let vs := v.cells.toList
    match p.spot, σ.get p.block with
    | none, some (.cells c e x false ver) =>
      bif Nat.beq vs.length i.size && Nat.ble (p.off + vs.length) c.length && allOne vs then
        some (σ.setObj p.block (.cells (splice c p.off vs) e x false (ver + 1)))
      else none
    | _, _ => none
  | _, _ => none

noncomputable def beqBytes : List UInt8 → List UInt8 → Bool
  | [], [] => true
  | a :: x, b :: y => match Nat.beq a.toNat b.toNat with
    | true => beqBytes x y
    | false => false
  | _, _ => false

noncomputable def lssBytes : List UInt8 → List UInt8 → Bool
  | _, [] => false
  | [], _ :: _ => true
  | a :: x, b :: y => match Nat.blt a.toNat b.toNat with
    | true => true
    | false => match Nat.beq a.toNat b.toNat with
      | true => lssBytes x y
      | false => false

noncomputable def sstring (op : BinOp) (x y : ByteArray) : Option Value :=
  match op with
  | .add => bif Nat.ble (x.data.toList.length + y.data.toList.length) big then some (.string ⟨⟨x.data.toList ++ y.data.toList⟩⟩) else none
  | .eql => some (.bool (beqBytes x.data.toList y.data.toList))
  | .neq => some (.bool (!beqBytes x.data.toList y.data.toList))
  | .lss => some (.bool (lssBytes x.data.toList y.data.toList))
  | .geq => some (.bool (!lssBytes x.data.toList y.data.toList))
  | .leq => some (.bool (!lssBytes y.data.toList x.data.toList))
  | .gtr => some (.bool (lssBytes y.data.toList x.data.toList))
  | _ => none

noncomputable def ibeq : Int → Int → Bool
  | .ofNat a, .ofNat b => Nat.beq a b
  | .negSucc a, .negSucc b => Nat.beq a b
  | _, _ => false

noncomputable def iblt : Int → Int → Bool
  | .ofNat a, .ofNat b => Nat.blt a b
  | .negSucc a, .negSucc b => Nat.blt b a
  | .negSucc _, .ofNat _ => true
  | .ofNat _, .negSucc _ => false

noncomputable def half : IntKind → Nat
  | .i8 => 128 | .i16 => 32768 | .i32 => 2147483648 | .i64 => 9223372036854775808
  | .u8 => 256 | .u16 => 65536 | .u32 => 4294967296 | .u64 => 18446744073709551616

noncomputable def swrap (k : IntKind) : Int → Int
  | .ofNat n => bif Nat.blt n (half k) then .ofNat n else k.wrap (.ofNat n)
  | .negSucc n => k.wrap (.negSucc n)

noncomputable def sint (op : BinOp) (k : IntKind) (x y : Int) : Option Value :=
  match op with
  | .add => some (.int k (swrap k (x + y)))
  | .sub => some (.int k (swrap k (x - y)))
  | .eql => some (.bool (ibeq x y))
  | .neq => some (.bool (!ibeq x y))
  | .lss => some (.bool (iblt x y))
  | .geq => some (.bool (!iblt x y))
  | .leq => some (.bool (!iblt y x))
  | .gtr => some (.bool (iblt y x))
  | _ => none

noncomputable def kbeq : IntKind → IntKind → Bool
  | .i8, .i8 | .i16, .i16 | .i32, .i32 | .i64, .i64 | .u8, .u8 | .u16, .u16 | .u32, .u32 | .u64, .u64 => true
  | _, _ => false

noncomputable def sgen (E : Env) (o : Oper) (a : SAct) (σ : SW) : Option (Value × SW) :=
  match srun E.P (execOp a.eval o) σ with
  | some (.value v, σ') => some (v, σ')
  | some (.skip, σ') => some (undef, σ')
  | _ => none

noncomputable def spart (P : Program) (t : TypeId) (cs : List Value) (off : Nat) : Option Value :=
  match aggB P t with
  | some true => match P.info? t with
    | some i => some (.agg ⟨(cs.drop off).take i.size⟩)
    | none => none
  | some false => cs[off]?
  | none => none

noncomputable def seqFields (q : TypeId → Value → Value → Option Bool) (P : Program) (xs ys : List Value) : List Field → Option Bool
  | [] => some true
  | f :: r => match decide (f.name = "_") with
    | true => seqFields q P xs ys r
    | false => match spart P f.type xs f.offset, spart P f.type ys f.offset with
      | some x, some y => match q f.type x y with
        | some true => seqFields q P xs ys r
        | some false => some false
        | none => none
      | _, _ => none

noncomputable def seqElems (q : Value → Value → Option Bool) (P : Program) (e : TypeId) (n : Nat) (xs ys : List Value) : List Nat → Option Bool
  | [] => some true
  | i :: r => match spart P e xs (i * n), spart P e ys (i * n) with
    | some x, some y => match q x y with
      | some true => seqElems q P e n xs ys r
      | some false => some false
      | none => none
    | _, _ => none

noncomputable def seqv (P : Program) : Nat → TypeId → Value → Value → Option Bool
  | 0, _, _, _ => none
  | d + 1, t, x, y => match P.underlying t, x, y with
    | some .bool, .bool a, .bool b => some (a == b)
    | some (.int _), .int k a, .int k' b => match kbeq k k' with
      | true => some (ibeq a b)
      | false => none
    | some .string, .string a, .string b => some (beqBytes a.data.toList b.data.toList)
    | some (.pointer _), .pointer none, .pointer b => some b.isNone
    | some (.pointer _), .pointer (some _), .pointer none => some false
    | some (.pointer e), .pointer (some a), .pointer (some b) => match P.info? e, Nat.beq a.block b.block, a.spot, b.spot with
      | some i, true, none, none => match i.size with
        | 0 => none
        | _ + 1 => some (Nat.beq a.off b.off)
      | _, _, _, _ => none
    | some (.interface _), .nilIface, .nilIface => some true
    | some (.interface _), .nilIface, .iface _ _ => some false
    | some (.interface _), .iface _ _, .nilIface => some false
    | some (.interface _), .iface tx vx, .iface ty vy => match Nat.beq tx ty, P.info? tx with
      | false, _ => some false
      | true, some i => match i.comparable with
        | true => seqv P d tx vx vy
        | false => none
      | _, _ => none
    | some (.struct fields), .agg xs, .agg ys => match P.stoodInHeld t with
      | true => none
      | false => seqFields (seqv P d) P xs.toList ys.toList fields.toList
    | some (.array len e), .agg xs, .agg ys => match P.info? e with
      | some i => seqElems (seqv P d e) P e i.size xs.toList ys.toList (List.range' 0 len)
      | none => none
    | some (.slice _), .slice none _ _, .slice b _ _ => some b.isNone
    | some (.slice _), .slice (some _) _ _, .slice none _ _ => some false
    | some (.map _ _), .map none, .map b => some b.isNone
    | some (.map _ _), .map (some _), .map none => some false
    | some (.func _ _ _), .nilFunc, .nilFunc => some true
    | some (.func _ _ _), .nilFunc, .func _ _ _ => some false
    | some (.func _ _ _), .func _ _ _, .nilFunc => some false
    | _, _, _ => none

noncomputable def sguard (P : Program) (t : TypeId) (x y : Operand) (a b : Value) : Bool :=
  match a, b with
  | .nilIface, .nilIface => match x, y with
    | .const _, _ => true
    | _, .const _ => true
    | _, _ => match P.underlying t with
      | some (.interface ms) => ms.toList.isEmpty
      | _ => false
  | .agg _, .agg _ => !P.eqGuardType P.depth t
  | _, _ => true

noncomputable def seq (E : Env) (t : TypeId) (x y : Operand) (a b : Value) : Option Bool :=
  match sguard E.P t x y a b with
  | true => seqv E.P 30 t a b
  | false => none

noncomputable def sbinOp (E : Env) (o : Oper) (a : SAct) (op : BinOp) (t : TypeId) (ox oy : Operand) (σ : SW) : Option (Value × SW) :=
  match a.eval ox, a.eval oy with
  | .string x, .string y => match sstring op x y with
    | some v => some (v, σ)
    | none => none
  | .int k x, .int k' y => match (match kbeq k k' with | true => sint op k x y | false => none) with
    | some v => some (v, σ)
    | none => sgen E o a σ
  | .float _ _, .float _ _ => none
  | .complex _ _ _, .complex _ _ _ => none
  | x, y => match op with
    | .eql => match seq E t ox oy x y with
      | some b => some (.bool b, σ)
      | none => none
    | .neq => match seq E t ox oy x y with
      | some b => some (.bool (!b), σ)
      | none => none
    | _ => none

noncomputable def sfieldAddr (E : Env) (s : TypeId) (x : Value) (f : Nat) : Option Value :=
  match E.P.underlying s, x with
  | some (.struct fields), .pointer (some a) => match fields.toList[f]? with
    | some fl => match E.P.info? fl.type with
      | some i => match i.size with
        | 0 => none
        | _ + 1 => some (.pointer (some (a.add fl.offset)))
      | none => none
    | none => none
  | _, _ => none

noncomputable def sindexAddr (E : Env) (t : TypeId) (x i : Value) : Option Value :=
  match i with
  | .int _ (.ofNat i) => match E.P.underlying t, x with
    | some (.slice elem), .slice (some a) len _ => match Nat.blt i len, E.P.info? elem with
      | true, some inf => some (.pointer (some (a.add (i * inf.size))))
      | _, _ => none
    | some (.array len elem), .pointer (some a) => match Nat.blt i len, E.P.info? elem with
      | true, some inf => some (.pointer (some (a.add (i * inf.size))))
      | _, _ => none
    | _, _ => none
  | _ => none

noncomputable def sindex (E : Env) (t : TypeId) (x i : Value) : Option Value :=
  match i with
  | .int _ (.ofNat i) => match E.P.underlying t, x with
    | some .string, .string s => match s.data.toList[i]? with
      | some b => some (.int .u8 b.toNat)
      | none => none
    | some (.array len elem), .agg cs => match Nat.blt i len, E.P.info? elem with
      | true, some inf => spart E.P elem cs.toList (i * inf.size)
      | _, _ => none
    | _, _ => none
  | _ => none

noncomputable def sfield (E : Env) (t : TypeId) (x : Value) (f : Nat) : Option Value :=
  match E.P.underlying t, x with
  | some (.struct fields), .agg cs => match fields.toList[f]? with
    | some fl => spart E.P fl.type cs.toList fl.offset
    | none => none
  | _, _ => none

noncomputable def sfill (place : Nat → Option (Nat × Nat)) (cells : List Value) : List (Nat × Value) → Option (List Value)
  | [] => some cells
  | (i, v) :: rest =>
    match place i with
    | none => none
    | some (off, size) =>
      let vs := v.cells.toList
      bif Nat.beq vs.length size && Nat.ble (off + vs.length) cells.length then sfill place (splice cells off vs) rest else none

noncomputable def sbuild (E : Env) (t : TypeId) (parts : List (Nat × Value)) : Option Value := sguarded (Nat.blt t E.nt) <|
  match E.P.info? t, E.P.underlying t with
  | some inf, some (.struct fields) => match inf.zero with
    | some z => (sfill (fun i => match fields.toList[i]? with
        | some fl => (match E.P.info? fl.type with | some i => some (fl.offset, i.size) | none => none)
        | none => none) z.cells.toList parts).map fun l => .agg ⟨l⟩
    | none => none
  | some inf, some (.array _ elem) => match inf.zero, E.P.info? elem with
    | some z, some ei => (sfill (fun i => some (i * ei.size, ei.size)) z.cells.toList parts).map fun l => .agg ⟨l⟩
    | _, _ => none
  | _, _ => none

noncomputable def mxok : Option Value → Option Value → Bool
  | some _, none => false
  | _, _ => true

noncomputable def sslice (E : Env) (t : TypeId) (x : Value) (lo hi mx : Option Value) (σ : SW) : Option (Value × SW) :=
  match E.P.underlying t, x with
  | some (.slice elem), .slice a len e =>
    match E.P.info? elem, natOf lo 0, natOf hi len, natOf mx len with
    | some info, some l, some h, some m =>
      bif mxok mx hi && Nat.ble l h && Nat.ble h m && Nat.ble m len && (Nat.beq e 0 || Nat.beq e info.size) then
        some (.slice (a.map (·.add (l * info.size))) (h - l) (match a with | none => 0 | some _ => e), σ)
      else none
    | _, _, _, _ => none
  | some .string, .string s =>
    match natOf lo 0, natOf hi s.data.toList.length, mx with
    | some l, some h, none =>
      bif Nat.ble l h && Nat.ble h s.data.toList.length then some (.string ⟨⟨(s.data.toList.drop l).take (h - l)⟩⟩, σ) else none
    | _, _, _ => none
  | _, _ => none

noncomputable def smake (E : Env) (t : TypeId) (len cap : Value) (b : Nat) : Option (Value × SObj) :=
  match E.P.underlying t, natOf (some len) 0, natOf (some cap) 0 with
  | some (.slice elem), some l, some c =>
    match E.P.info? elem with
    | some info => sguarded (Nat.blt elem E.nt) <|
      match info.zero with
      | some z =>
        bif Nat.ble l c && Nat.ble (c * (info.bytes + 1)) big && Nat.beq z.cells.toList.length info.size then
          some (.slice (some ⟨b, 0, none⟩) l info.size, .cells (rep c z.cells.toList) elem true false 0)
        else none
      | none => none
    | none => none
  | _, _, _ => none

noncomputable def sbuildSlice (E : Env) (t : TypeId) (len : Nat) (parts : List (Nat × Value)) (b : Nat) : Option (Value × SObj) :=
  match E.P.underlying t with
  | some (.slice elem) =>
    match E.P.info? elem with
    | some info => sguarded (Nat.blt elem E.nt) <| match info.zero with
      | some z => match Nat.ble (len * info.size) (2 ^ 24), Nat.beq z.cells.toList.length info.size, sfill (fun i => some (i * info.size, info.size)) (rep len z.cells.toList) parts with
        | true, true, some l => some (.slice (some ⟨b, 0, none⟩) len info.size, .cells l elem true false 0)
        | _, _, _ => none
      | none => none
    | _ => none
  | _ => none

noncomputable def salloc (E : Env) (t : TypeId) (b : Nat) : Option (Value × SObj) := sguarded (Nat.blt t E.nt) <|
  match E.P.info? t with
  | some info => match info.zero with
    | some z => some (.pointer (some ⟨b, 0, none⟩), .cells z.cells.toList t true false 0)
    | none => none
  | none => none

noncomputable def sbox (t : TypeId) (x : Value) (b : Nat) : Option (Value × SObj) := some (.pointer (some ⟨b, 0, none⟩), .cells x.cells.toList t true false 0)

noncomputable def spush (σ : SW) : Option (Value × SObj) → Option (Value × SW)
  | some (v, o) => some (v, σ.push o)
  | none => none

noncomputable def bytesOfList : List Value → Option (List UInt8)
  | [] => some []
  | .int .u8 (.ofNat n) :: r => match Nat.blt n 256, bytesOfList r with
    | true, some l => some (UInt8.ofNat n :: l)
    | _, _ => none
  | _ :: _ => none

noncomputable def sconvert (E : Env) (src dst : TypeId) (x : Value) (σ : SW) : Option (Value × SW) :=
  match E.P.underlying src, E.P.underlying dst, x with
  | some .string, some (.slice e), .string s =>
    match E.P.underlying e with
    | some (.int .u8) => some (.slice (some ⟨σ.n, 0, none⟩) s.size 1, σ.push (.cells (byteList s) e false false 0))
    | some (.int .i32) =>
      let l := (Conv.runesFrom s s.size 0 #[]).toList
      bif Nat.ble l.length big then some (.slice (some ⟨σ.n, 0, none⟩) l.length 1, σ.push (.cells l e false false 0)) else none
    | _ => none
  | some (.slice _), some (.slice e), .slice (some a) (l + 1) cp =>
    match Nat.beq src dst, E.P.underlying e, σ.get a.block with
    | true, some (.int .u8), some (.cells c el x false ver) => some (.slice (some a) (l + 1) cp, σ.setObj a.block (.cells c el x false (ver + 1)))
    | _, _, _ => none
  | some (.slice e), some .string, .slice a len _ =>
    match E.P.underlying e, a with
    | some (.int .u8), none => some (.string .empty, σ)
    | some (.int .u8), some a => match loadList σ a len with
      | some l => match bytesOfList l with
        | some l => some (.string ⟨⟨l⟩⟩, σ)
        | none => none
      | none => none
    | _, _ => none
  | some _, some (.int k), .int _ n => some (.int k (swrap k n), σ)
  | some _, some .string, .int _ n => some (.string (Utf8.encode n), σ)
  | some _, some (.float k), .int _ n => some (.float k (k.nearest n), σ)
  | some _, some .string, .string s => some (.string s, σ)
  | some (.pointer t), some .unsafePointer, .pointer (some ⟨s, off, none⟩) =>
    match σ.get s, E.P.info? t with
    | some (.cells c _ _ _ _), some i => match Nat.blt off c.length, i.size with
      | true, _ + 1 => some (.pointer (some ⟨s, off, none⟩), σ)
      | _, _ => none
    | _, _ => none
  | some .unsafePointer, some (.pointer u), .pointer (some ⟨s, off, none⟩) =>
    match σ.get s, E.P.info? u with
    | some (.cells c e true _ _), some _ => match liesAt E.P E.P.depth e (c.length / E.P.cellsOf e) off u 1 with
      | true => some (.pointer (some ⟨s, off, none⟩), σ)
      | false => none
    | _, _ => none
  | _, _, _ => none

noncomputable def sunsafeString (E : Env) (argTypes : Array TypeId) (args : Array Value) (σ : SW) : Option (Value × SW) :=
  match argTypes.toList, args.toList with
  | [pt, _], [.pointer p, .int .i64 (.ofNat n)] =>
    match n, p with
    | 0, _ => some (.string .empty, σ)
    | n + 1, some ⟨s, 0, none⟩ =>
      match σ.get s, E.P.underlying pt with
      | some (.cells c e x _ ver), some (.pointer u) =>
        match E.P.info? u with
        | some i =>
          bif Nat.ble (n + 1) big && Nat.beq e u && Nat.beq i.size 1 && Nat.ble (n + 1) c.length && Nat.ble σ.b s then
            match bytesOfList (c.take (n + 1)) with
            | some l => some (.string ⟨⟨l⟩⟩, σ.setObj s (.cells c e x true (ver + 1)))
            | none => none
          else none
        | none => none
      | _, _ => none
    | _, _ => none
  | _, _ => none

noncomputable def sunsafeSliceData (args : Array Value) (σ : SW) : Option (Value × SW) :=
  match args.toList with
  | [.slice none _ _] => some (.pointer none, σ)
  | [.slice (some a) l _] => match l with
    | 0 => none
    | _ + 1 => some (.pointer (some a), σ)
  | _ => none

noncomputable def scap (args : Array Value) (σ : SW) : Option (Value × SW) :=
  match args.toList with
  | [.slice none _ _] => some (.int .i64 0, σ)
  | _ => none

noncomputable def slen (E : Env) (argTypes : Array TypeId) (args : Array Value) (σ : SW) : Option (Value × SW) :=
  match argTypes.toList, args.toList with
  | t :: _, v :: _ => match E.P.underlying t, v with
    | some .string, .string s => some (.int .i64 s.size, σ)
    | some (.array n _), _ => some (.int .i64 n, σ)
    | some (.slice _), .slice _ n _ => some (.int .i64 n, σ)
    | some (.pointer arr), _ => match E.P.underlying arr with
      | some (.array n _) => some (.int .i64 n, σ)
      | _ => none
    | _, _ => none
  | _, _ => none

noncomputable def sbuiltin (E : Env) (b : Builtin) (argTypes : Array TypeId) (type : TypeId) (consts : Array Bool) (args : Array Value) (σ : SW) : Option (Value × SW) :=
  match b with
  | .append => sappend E argTypes args σ
  | .cap => match (argTypes[0]?).bind E.P.underlying with
    | some (.slice _) => scap args σ
    | _ => none
  | .unsafeString => sunsafeString E argTypes args σ
  | .unsafeSliceData => sunsafeSliceData args σ
  | .max => match args.toList with
    | [.int k x, .int _ y] => some (.int k (bif iblt x y then y else x), σ)
    | _ => none
  | .min => match args.toList with
    | [.int k x, .int _ y] => some (.int k (bif iblt y x then y else x), σ)
    | _ => none
  | .len => slen E argTypes args σ
  | .copy => match srun E.P (builtin b argTypes type consts args) σ with
    | some (.value v, σ') => some (v, σ')
    | _ => none
  | _ => none

noncomputable def sext (E : Env) (x : SExt) (args : Array Value) (σ : SW) : Option (Value × SW) :=
  match x with
  | .sem e => srun E.P (e args) σ
  | .makeNoZero elem => match args.toList with
    | [.int .i64 n] => bif decide (0 ≤ n) && decide (n ≤ big) then some (.slice (some ⟨σ.n, 0, none⟩) n.toNat 1, σ.push (.cells [] elem false false 0)) else none
    | _ => none

noncomputable def sfunc (E : Env) (C : SCall) (f : FuncId) (args : Array Value) (σ : SW) : Option (Value × SW) :=
  match E.ext f with
  | some x => sext E x args σ
  | none => C (.fn f args) σ

noncomputable def smethod (E : Env) (C : SCall) (recv : Value) (name : String) (args : Array Value) (σ : SW) : Option (Value × SW) :=
  match recv with
  | .iface t v => match E.P.info? t, E.P.underlying t with
    | some i, some u => match i.methods.find? (·.name == name) with
      | some m => match m.path.toList, m.func, (match u with | .pointer _ => true | _ => false) with
        | [], some (f, true), true => sfunc E C f ⟨v :: args.toList⟩ σ
        | [], some (f, false), false => sfunc E C f ⟨v :: args.toList⟩ σ
        | _, _, _ => none
      | none => none
    | _, _ => none
  | _ => none

noncomputable def sargs (a : SAct) (l : Array Operand) : Array Value := ⟨l.toList.map a.eval⟩
noncomputable def sparts (a : SAct) (l : Array (Nat × Operand)) : List (Nat × Value) := l.toList.map fun x => match x with | (i, x) => (i, a.eval x)

noncomputable def scallOp (E : Env) (C : SCall) (c : Call) (type : TypeId) (a : SAct) (σ : SW) : Option (Value × SW) :=
  let args := sargs a c.args
  match c.callee with
  | .builtin b => sbuiltin E b c.argTypes type (c.args.map fun | .const _ => true | _ => false) args σ
  | .invoke recv name => smethod E C (a.eval recv) name args σ
  | .value f => match a.eval f with
    | .func (.func g) first captured => sfunc E C g ((first ++ args) ++ captured) σ
    | .func (.method name) first _ => match (first ++ args)[0]? with
      | some recv => smethod E C recv name ((first ++ args).extract 1 (first ++ args).size) σ
      | none => none
    | .func (.yield l) first _ => C (.round l (first ++ args)) σ
    | _ => none

noncomputable def srange0 (E : Env) (t : TypeId) (x : Value) (σ : SW) : Option (Value × SW) :=
  match E.P.underlying t, x with
  | some .string, .string s => some (.pointer (some ⟨σ.n, 0, none⟩), σ.push (.iter s 0 0))
  | _, _ => none

noncomputable def snext (it : Value) (isString : Bool) (σ : SW) : Option (Value × SW) :=
  match it, isString with
  | .pointer (some ⟨r, 0, none⟩), true => match σ.get r with
    | some (.iter s pos v) =>
      bif Nat.blt pos s.size then
        match Utf8.decode s pos with
        | (c, width) => some (.tuple #[.bool true, .int .i64 pos, .int .i32 c], σ.setObj r (.iter s (pos + width) (v + 1)))
      else some (.tuple #[.bool false], σ)
    | _ => none
  | _, _ => none

noncomputable def snil : Value → Option Value
  | .pointer none | .nilIface | .nilFunc => none
  | .func (.method _) _ _ => none
  | v => some v

noncomputable def siface (E : Env) (t : TypeId) (x : Value) : Option Value :=
  match E.P.underlying t with
  | some (.interface _) => none
  | some _ => some (.iface t x)
  | none => none

noncomputable def sfailed (E : Env) (t : TypeId) (ok : Bool) : Option Value := sguarded (Nat.blt t E.nt) <|
  match ok, E.P.info? t with
  | true, some i => match i.zero with
    | some z => some (.tuple #[z, .bool false])
    | none => none
  | _, _ => none

noncomputable def sheld (v : Value) : Bool → Value
  | true => .tuple #[v, .bool true]
  | false => v

noncomputable def sassert (E : Env) (x : Value) (t : TypeId) (ok : Bool) : Option Value :=
  match E.P.underlying t, x with
  | some (.interface want), .iface d v => match E.P.info? d with
    | some i => match Instr.missingMethod want i.methods with
      | none => some (sheld (.iface d v) ok)
      | some _ => sfailed E t ok
    | none => none
  | some (.interface _), .nilIface => sfailed E t ok
  | some _, .nilIface => sfailed E t ok
  | some _, .iface d v => match Nat.beq d t with
    | true => some (sheld v ok)
    | false => sfailed E t ok
  | _, _ => none

/-! Maps whose keys are strings or integers -/
noncomputable def skeyEq : Value → Value → Option Bool
  | .string a, .string b => some (beqBytes a.data.toList b.data.toList)
  | .int k a, .int k' b => match kbeq k k' with
    | true => some (ibeq a b)
    | false => none
  | _, _ => none

noncomputable def skind (E : Env) (t : TypeId) (k : Value) : Bool :=
  match E.P.underlying t, k with
  | some .string, .string _ => true
  | some (.int _), .int _ _ => true
  | _, _ => false

noncomputable def sfind (k : Value) : List MapEntry → Nat → Option (Option (Nat × Value))
  | [], _ => some none
  | e :: r, i => match skeyEq k e.key with
    | some true => some (some (i, e.val))
    | some false => sfind k r (i + 1)
    | none => none

noncomputable def ssetAt (key v : Value) : List MapEntry → Nat → List MapEntry
  | [], _ => []
  | e :: r, 0 => ⟨key, v, e.born⟩ :: r
  | e :: r, i + 1 => e :: ssetAt key v r i

noncomputable def smakeMap (E : Env) (t : TypeId) (r : Option Value) (b : Nat) : Option (Value × SObj) :=
  match r, E.P.underlying t with
  | none, _ => some (.map (some b), .map #[] 0 0)
  | some (.int _ _), some (.map _ _) => some (.map (some b), .map #[] 0 0)
  | _, _ => none

noncomputable def sentries (x : Value) (σ : SW) : Option (List MapEntry) :=
  match x with
  | .map none => some []
  | .map (some r) => match σ.get r with
    | some (.map es _ _) => some es.toList
    | _ => none
  | _ => none

noncomputable def slookup (E : Env) (t : TypeId) (x k : Value) (ok : Bool) (σ : SW) : Option Value :=
  match E.P.underlying t, sentries x σ with
  | some (.map kt et), some es => match skind E kt k, sfind k es 0 with
    | true, some (some (_, v)) => some (sheld v ok)
    | true, some none => match sguarded (Nat.blt et E.nt) ((E.P.info? et).bind (·.zero)) with
      | some z => some (match ok with | true => .tuple #[z, .bool false] | false => z)
      | none => none
    | _, _ => none
  | _, _ => none

noncomputable def smapUpdate (E : Env) (t : TypeId) (x k v : Value) (σ : SW) : Option SW :=
  match E.P.underlying t, x with
  | some (.map kt _), .map (some r) => match skind E kt k, σ.get r with
    | true, some (.map es c ver) => match sfind k es.toList 0 with
      | some (some (i, _)) => some (σ.setObj r (.map ⟨ssetAt k v es.toList i⟩ c (ver + 1)))
      | some none => some (σ.setObj r (.map ⟨es.toList ++ [⟨k, v, c⟩]⟩ (c + 1) (ver + 1)))
      | none => none
    | _, _ => none
  | _, _ => none

noncomputable def skeep (σ : SW) : Option Value → Option (Value × SW)
  | some v => some (v, σ)
  | none => none

noncomputable def sop (E : Env) (C : SCall) (o : Oper) (a : SAct) (σ : SW) : Option (Value × SW) :=
  match o.op with
  | .move x | .assign x => some (a.eval x, σ)
  | .pick c x y => match a.eval c with
    | .bool true => some (a.eval x, σ)
    | .bool false => some (a.eval y, σ)
    | _ => none
  | .call c => scallOp E C c o.type a σ
  | .slice t x lo hi mx => sslice E t (a.eval x) (lo.map a.eval) (hi.map a.eval) (mx.map a.eval) σ
  | .build t parts => skeep σ (sbuild E t (sparts a parts))
  | .load t x => sload E t (a.eval x) σ
  | .store t x v => match sstore E t (a.eval x) (a.eval v) σ with
    | some σ' => some (undef, σ')
    | none => none
  | .fieldAddr s x f => skeep σ (sfieldAddr E s (a.eval x) f)
  | .field s x f => skeep σ (sfield E s (a.eval x) f)
  | .indexAddr t x i => skeep σ (sindexAddr E t (a.eval x) (a.eval i))
  | .index t x i => skeep σ (sindex E t (a.eval x) (a.eval i))
  | .binOp op t x y _ => sbinOp E o a op t x y σ
  | .extract x i => match a.eval x with
    | .tuple vs => skeep σ (vs.toList[i]?)
    | _ => none
  | .makeFunc fn first captured => match fn with
    | .yield _ => none
    | _ => some (.func fn (sargs a first) (sargs a captured), σ)
  | .convert src dst x => sconvert E src dst (a.eval x) σ
  | .range t x => srange0 E t (a.eval x) σ
  | .next it b => snext (a.eval it) b σ
  | .nilCheck x => skeep σ (snil (a.eval x))
  | .makeInterface t x => skeep σ (siface E t (a.eval x))
  | .typeAssert x _ t ok => skeep σ (sassert E (a.eval x) t ok)
  | .lookup t x k ok => skeep σ (slookup E t (a.eval x) (a.eval k) ok σ)
  | .mapUpdate t m k v => match smapUpdate E t (a.eval m) (a.eval k) (a.eval v) σ with
    | some σ' => some (undef, σ')
    | none => none
  | .makeSlice t l c => spush σ (smake E t (a.eval l) (a.eval c) σ.n)
  | .buildSlice t len parts => spush σ (sbuildSlice E t len (sparts a parts) σ.n)
  | .makeMap t r => spush σ (smakeMap E t (r.map a.eval) σ.n)
  | .alloc t => spush σ (salloc E t σ.n)
  | .box t x => spush σ (sbox t (a.eval x) σ.n)
  | .unOp .. => sgen E o a σ
  | _ => none

/-- What makes one new object and looks at no memory. -/
noncomputable def floatOp : Op → Bool
  | .makeSlice .. | .buildSlice .. | .makeMap .. | .alloc _ | .box .. => true
  | _ => false

noncomputable def sfloat (E : Env) (op : Op) (a : SAct) (b : Nat) : Option (Value × SObj) :=
  match op with
  | .makeSlice t l c => smake E t (a.eval l) (a.eval c) b
  | .buildSlice t len parts => sbuildSlice E t len (sparts a parts) b
  | .makeMap t r => smakeMap E t (r.map a.eval) b
  | .alloc t => salloc E t b
  | .box t x => sbox t (a.eval x) b
  | _ => none

noncomputable def swanted (ops : Array Oper) (a : SAct) (o : Oper) : Bool :=
  match o.guard with
  | none => true
  | some (j, want) => match ((ops[j]?).bind (·.dst)).bind a.t.get with
    | some (.bool b) => b == want
    | _ => false

noncomputable def sstep (E : Env) (C : SCall) (ops : Array Oper) (o : Oper) (a : SAct) (σ : SW) : Option (SAct × SW) :=
  match swanted ops a o with
  | false => match a.put o.dst undef with
    | some a' => some (a', σ)
    | none => none
  | true => match sop E C o a σ with
    | some (v, σ') => match a.put o.dst v with
      | some a' => some (a', σ')
      | none => none
    | none => none

noncomputable def sops (E : Env) (C : SCall) (ops : Array Oper) : List Oper → SAct → SW → Option (SAct × SW)
  | [], a, σ => some (a, σ)
  | o :: r, a, σ => match sstep E C ops o a σ with
    | some (a', σ') => sops E C ops r a' σ'
    | none => none

/-! ## Code -/
inductive SExit where
  | normal
  | exit (id : Nat)
  | goto (l : Nat)
  | ret

abbrev SRes := Option (SExit × SAct × SW)

noncomputable def sloop : Nat → (SAct → SW → SRes) → SAct → SW → SRes
  | 0, _, _, _ => none
  | k + 1, f, a, σ => match f a σ with
    | some (.normal, a', σ') => sloop k f a' σ'
    | r => r

/-! A region that draws its order: it is run in the text's order; what is free to come at another place is run there too. -/
noncomputable def tb (m i : Nat) : Bool := Nat.beq (Nat.land (Nat.shiftRight m i) 1) 1

noncomputable def fbeq : Fn → Fn → Bool
  | .func f, .func g => Nat.beq f g
  | _, _ => false

noncomputable def obeq (q : Addr → Addr → Bool) : Option Addr → Option Addr → Bool
  | none, none => true
  | some a, some b => q a b
  | _, _ => false

noncomputable def abeq (a b : Addr) : Bool :=
  match a.spot, b.spot with
  | none, none => Nat.beq a.block b.block && Nat.beq a.off b.off
  | _, _ => false

noncomputable def fkbeq : FloatKind → FloatKind → Bool
  | .f32, .f32 | .f64, .f64 => true
  | _, _ => false

noncomputable def vsbeq (q : Value → Value → Bool) : List Value → List Value → Bool
  | [], [] => true
  | a :: x, b :: y => match q a b with
    | true => vsbeq q x y
    | false => false
  | _, _ => false

noncomputable def veq : Nat → Value → Value → Bool
  | 0, _, _ => false
  | d + 1, a, b => match a, b with
    | .bool x, .bool y => x == y
    | .int k x, .int k' y => kbeq k k' && ibeq x y
    | .float k x, .float k' y => fkbeq k k' && Nat.beq x y
    | .string x, .string y => beqBytes x.data.toList y.data.toList
    | .pointer x, .pointer y => obeq abeq x y
    | .slice x l c, .slice y l' c' => obeq abeq x y && Nat.beq l l' && Nat.beq c c'
    | .nilFunc, .nilFunc => true
    | .nilIface, .nilIface => true
    | .map none, .map none => true
    | .map (some x), .map (some y) => Nat.beq x y
    | .iface t x, .iface u y => Nat.beq t u && veq d x y
    | .agg x, .agg y => vsbeq (veq d) x.toList y.toList
    | .tuple x, .tuple y => vsbeq (veq d) x.toList y.toList
    | .func f x c, .func g y e => fbeq f g && vsbeq (veq d) x.toList y.toList && vsbeq (veq d) c.toList e.toList
    | _, _ => false

noncomputable def intConv (E : Env) (src dst : TypeId) : Bool :=
  match E.P.underlying src, E.P.underlying dst with
  | some (.int _), some (.int _) => true
  | _, _ => false

noncomputable def quietOp (E : Env) : Op → Bool
  | .move _ | .assign _ | .pick .. | .load .. | .fieldAddr .. | .field .. | .indexAddr .. | .index .. | .binOp .. | .extract .. | .makeFunc .. | .nilCheck .. | .makeInterface .. | .typeAssert .. | .slice .. | .unOp .. | .build .. | .lookup .. => true
  | .convert src dst _ => intConv E src dst
  | .call c => match c.callee with
    | .builtin .len | .builtin .max | .builtin .min => true
    | _ => false
  | _ => false

/-- What keeps its place among its like. -/
noncomputable def loudOp (E : Env) (o : Op) : Bool :=
  match quietOp E o with
  | true => false
  | false => match floatOp o with
    | true => false
    | false => true

noncomputable def sedges : List Edge → Nat → T Nat → Nat → Option Nat
  | [], _, _, m => some m
  | e :: r, i, B, m => match Region.binds .any e with
    | false => sedges r i B m
    | true => match Nat.blt e.on i, B.get e.on with
      | true, some b => sedges r i B (Nat.lor m (Nat.lor b (Nat.shiftLeft 1 e.on)))
      | _, _ => none

noncomputable def sdsts : List Oper → Nat → T Nat → Option (T Nat)
  | [], _, D => some D
  | o :: r, i, D => match o.dst with
    | none => sdsts r (i + 1) D
    | some d => match D.get d with
      | none => sdsts r (i + 1) (D.set bits d i)
      | some _ => none

noncomputable def slots (D : T Nat) (m : Nat) : List Operand → Bool
  | [] => true
  | .tmp t :: r => match D.get t with
    | none => slots D m r
    | some j => match tb m j with
      | true => slots D m r
      | false => false
  | _ :: r => slots D m r

structure SRec where
  o : Oper
  i : Nat
  m : Nat
  s : SAct
  σ : SW
  v : Value

noncomputable def sdstep (E : Env) (C : SCall) (ops : Array Oper) (n0 : Nat) (o : Oper) (i : Nat) (a : SAct) (σ : SW) : Option (Value × SW) :=
  match swanted ops a o with
  | false => some (undef, σ)
  | true => match floatOp o.op with
    | true => match sfloat E o.op a (n0 + i) with
      | some (v, so) => some (v, σ.setObj (n0 + i) so)
      | none => none
    | false => sop E C o a σ

/-- The run in the text's order. 'last' is the last loud operation so far. A new object of operation i is block n0 + i. -/
noncomputable def sdraw (E : Env) (C : SCall) (ops : Array Oper) (n0 : Nat) (D : T Nat) : List Oper → Nat → T Nat → Option Nat → SAct → SW → Option (List SRec × SAct × SW)
  | [], _, _, _, a, σ => some ([], a, σ)
  | o :: r, i, B, last, a, σ =>
    match sedges o.after.toList i B 0 with
    | none => none
    | some m =>
      match slots D m o.op.operands.toList, (match o.guard with | some (j, _) => tb m j | none => true), (match loudOp E o.op, last with | true, some l => tb m l | _, _ => true) with
      | true, true, true =>
        match sdstep E C ops n0 o i a σ with
        | none => none
        | some (v, σ') => match a.put o.dst v with
          | none => none
          | some a' => match sdraw E C ops n0 D r (i + 1) (B.set bits i m) (match loudOp E o.op with | false => last | true => some i) a' σ' with
            | none => none
            | some (l, a'', σ'') => some (⟨o, i, m, a, σ, v⟩ :: l, a'', σ'')
      | _, _, _ => none

noncomputable def smods (E : Env) (n : Nat) (σ : SW) : List SRec → List (Nat × Nat × SW)
  | [] => [(n, 0, σ)]
  | x :: r => match loudOp E x.o.op with
    | false => smods E n σ r
    | true => (x.i, x.m, x.σ) :: smods E n σ r

/-- May operation i come when p is the next of those that are not quiet? -/
noncomputable def sfree (n i m p : Nat) : List (Nat × Nat × SW) → Bool
  | [] => true
  | (j, mj, _) :: r => match Nat.beq j n with
    | true => sfree n i m p r
    | false => match Nat.blt j p with
      | true => match tb mj i with
        | true => false
        | false => sfree n i m p r
      | false => match tb m j with
        | true => false
        | false => sfree n i m p r

noncomputable def sagain (E : Env) (C : SCall) (n : Nat) (x : SRec) (all : List (Nat × Nat × SW)) : List (Nat × Nat × SW) → Bool
  | [] => true
  | (p, _, σ) :: r => match sfree n x.i x.m p all with
    | false => sagain E C n x all r
    | true => match sop E C x.o x.s σ with
      | some (v, _) => match veq 40 v x.v with
        | true => sagain E C n x all r
        | false => false
      | none => false

noncomputable def sagains (E : Env) (C : SCall) (ops : Array Oper) (n : Nat) (all : List (Nat × Nat × SW)) : List SRec → Bool
  | [] => true
  | x :: r => match (match quietOp E x.o.op, swanted ops x.s x.o with | true, true => sagain E C n x all all | _, _ => true) with
    | true => sagains E C ops n all r
    | false => false

noncomputable def sregion (E : Env) (C : SCall) (ops : Array Oper) (draw : Bool) (a : SAct) (σ : SW) : SRes :=
  match draw with
  | false => match sops E C ops ops.toList a σ with
    | some (a', σ') => some (.normal, a', σ')
    | none => none
  | true => match sdsts ops.toList 0 .nil with
    | none => none
    | some D => match sdraw E C ops σ.n D ops.toList 0 .nil none a ⟨σ.h, σ.n + ops.size, σ.b⟩ with
      | none => none
      | some (l, a', σ') => match sagains E C ops ops.size (smods E ops.size σ' l) l with
        | true => some (.normal, a', σ')
        | false => none

noncomputable def sjump (a : SAct) (σ : SW) : Option Code → SRes
  | none => some (.normal, a, σ)
  | some .ret => some (.ret, a, σ)
  | some (.exit id) => some (.exit id, a, σ)
  | some (.goto l) => some (.goto l, a, σ)
  | _ => none

noncomputable def hasLabel : Code → Nat → Bool
  | .seq a b, l => hasLabel a l || hasLabel b l
  | .label l', l => Nat.beq l' l
  | _, _ => false

noncomputable def sscope (has : Nat → Bool) : Nat → (Option Nat → SAct → SW → SRes) → Option Nat → SAct → SW → SRes
  | 0, _, _, _, _ => none
  | k + 1, f, fr, a, σ => match f fr a σ with
    | some (.goto l, a', σ') => match has l with
      | true => sscope has k f (some l) a' σ'
      | false => some (.goto l, a', σ')
    | r => r

noncomputable def srange (C : SCall) (rd : Option Nat) (f : Value) (ps : Array Tmp) (assign body : Code) (a : SAct) (σ : SW) : SRes :=
  match (match rd with
    | none => some (σ.n, σ.n :: a.marks, σ.push (.deferred 0))
    | some l0 => match σ.get l0 with
      | some (.loop _ _ _ _ _ _ _ df _) => some (df, a.marks, σ)
      | _ => none) with
  | none => none
  | some (df, marks, σ1) =>
    match f with
    | .func (.func g) first captured =>
      match C (.fn g ((first ++ #[.func (.yield σ1.n) #[] #[]]) ++ captured)) (σ1.push (.loop .ready none a.t a.n ps assign body df 0)) with
      | some (_, σ2) => match σ2.get σ1.n with
        | some (.loop .busy ..) => none
        | some (.loop _ pending t n ps' as bd df' ver) => sjump { a with marks } (σ2.setObj σ1.n (.loop .exhausted pending t n ps' as bd df' (ver + 1))) pending
        | _ => none
      | none => none
    | _ => none

noncomputable def scode (E : Env) (C : SCall) (K : Nat) (rd : Option Nat) : Code → Option Nat → SAct → SW → SRes
  | .seq x y, fr, a, σ =>
    match (match fr with | none => true | some l => hasLabel x l) with
    | true => match scode E C K rd x fr a σ with
      | some (.normal, a', σ') => scode E C K rd y none a' σ'
      | r => r
    | false => scode E C K rd y fr a σ
  | .label l', fr, a, σ => match fr with
    | none => some (.normal, a, σ)
    | some l => match Nat.beq l' l with
      | true => some (.normal, a, σ)
      | false => none
  | .skip, none, a, σ => some (.normal, a, σ)
  | .region _ ops draw, none, a, σ => sregion E C ops draw a σ
  | .cond c x y, none, a, σ => match a.eval c with
    | .bool true => scode E C K rd x none a σ
    | .bool false => scode E C K rd y none a σ
    | _ => none
  | .block id c, none, a, σ => match scode E C K rd c none a σ with
    | some (.exit id', a', σ') => bif Nat.beq id' id then some (.normal, a', σ') else some (.exit id', a', σ')
    | r => r
  | .loop c, none, a, σ => sloop K (scode E C K rd c none) a σ
  | .rangeFunc f ps as bd, none, a, σ => srange C rd (a.eval f) ps as bd a σ
  | .exit id, none, a, σ => some (.exit id, a, σ)
  | .scope c, none, a, σ => sscope (hasLabel c) K (scode E C K rd c) none a σ
  | .goto l, none, a, σ => some (.goto l, a, σ)
  | .ret, none, a, σ => some (.ret, a, σ)
  | _, _, _, _ => none

noncomputable def sunmark : List Nat → SW → Option SW
  | [], σ => some σ
  | m :: r, σ => match σ.get m with
    | some (.deferred _) => sunmark r (σ.setObj m .spent)
    | _ => none

noncomputable def sresults (E : Env) (a : SAct) (σ : SW) : List ResultVar → Option (List Value)
  | [] => some []
  | .tmp t :: r => (sresults E a σ r).map ((a.t.get t).getD undef :: ·)
  | .cell x t :: r => match (a.t.get x).getD undef with
    | .pointer (some p) => match sload E t (.pointer (some p)) σ with
      | some (v, _) => (sresults E a σ r).map (v :: ·)
      | none => none
    | _ => none

noncomputable def sleave (E : Env) (fn : Func) (a : SAct) (σ : SW) : Option (Value × SW) :=
  match sunmark a.marks σ with
  | some σ' => match sresults E a σ' fn.results.toList with
    | some [v] => some (v, σ')
    | some vs => some (.tuple vs.toArray, σ')
    | none => none
  | none => none

noncomputable def setParams : List (Tmp × Value) → Nat → T Value → Option (T Value)
  | [], _, t => some t
  | (p, v) :: r, n, t => bif Nat.blt p n then setParams r n (t.set bits p v) else none

noncomputable def sround (E : Env) (C : SCall) (K : Nat) (l : Nat) (args : Array Value) (σ : SW) : Option (Value × SW) :=
  match σ.get l with
  | some (.loop .ready _ t n ps as bd _ _) =>
    match Nat.beq args.size ps.size, setParams (ps.toList.zip args.toList) n t with
    | true, some t' =>
      match scode E C K (some l) as none ⟨t', n, []⟩ σ with
      | some (.normal, a1, σ1) =>
        match σ1.get l with
        | some (.loop .ready pd t1 n1 ps1 as1 bd1 df1 v1) =>
          match scode E C K (some l) bd none a1 (σ1.setObj l (.loop .busy pd t1 n1 ps1 as1 bd1 df1 (v1 + 1))) with
          | some (e, _, σ2) =>
            match σ2.get l with
            | some (.loop _ _ t2 n2 ps2 as2 bd2 df2 v2) =>
              match e with
              | .normal => some (.bool true, σ2.setObj l (.loop .ready none t2 n2 ps2 as2 bd2 df2 (v2 + 1)))
              | .ret => some (.bool false, σ2.setObj l (.loop .done (some .ret) t2 n2 ps2 as2 bd2 df2 (v2 + 1)))
              | .goto g => some (.bool false, σ2.setObj l (.loop .done (some (.goto g)) t2 n2 ps2 as2 bd2 df2 (v2 + 1)))
              | .exit id => some (.bool false, σ2.setObj l (.loop .done (some (.exit id)) t2 n2 ps2 as2 bd2 df2 (v2 + 1)))
            | _ => none
          | none => none
        | _ => none
      | _ => none
    | _, _ => none
  | _ => none

noncomputable def scall (E : Env) (K : Nat) : Nat → SEntry → SW → Option (Value × SW)
  | 0, _, _ => none
  | d + 1, .fn f args, σ => match sguarded (Nat.blt f E.nf) (E.P.funcs[f]?) with
    | some fn => match fn.body, Nat.ble args.toList.length fn.ntmps && Nat.blt (fn.ntmps + 1) 16777216 with
      | some c, true => match scode E (scall E K d) K none c none ⟨ofArgs args.toList 0 .nil, fn.ntmps, []⟩ σ with
        | some (.normal, a, σ') | some (.ret, a, σ') => sleave E fn a σ'
        | _ => none
      | _, _ => none
    | none => none
  | d + 1, .round l args, σ => sround E (scall E K d) K l args σ
end Go.Sh
