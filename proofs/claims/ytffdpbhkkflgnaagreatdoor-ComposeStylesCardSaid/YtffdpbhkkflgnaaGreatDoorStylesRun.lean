/- Facts of the program, and of a run, for the statement that imports this text. Conditions: as each theorem names them. -/
import Derived.Test.YtffdpbhkkflgnaaGreatDoorRelatives
namespace Go.Proofs.YtffdpbhkkflgnaaGreatDoor
open Go Go.Sh Go.RowKit
set_option maxRecDepth 100000

/-! ## The law -/
theorem all_join {l m : List Prop} (h : all l) (k : all m) : all (l ++ m) := by
  induction l with
  | nil => exact k
  | cons p l ih =>
    obtain ⟨h1, h2⟩ := all_cons h
    have := ih h2
    cases hl : l ++ m with
    | nil => rw [List.cons_append, hl]; exact h1
    | cons q r => rw [List.cons_append, hl]; rw [hl] at this; exact ⟨h1, this⟩

noncomputable def listW (x : List UInt8) (e k : Bool) : Value := match e, k with
  | true, _ => .tuple #[strA standard, .int .i64 0]
  | false, true => .tuple #[strA x, .int .i64 0]
  | false, false => .tuple #[strA [], .int .i64 2]

noncomputable def eqσ (σ : SW) (neg : Bool) (r : Option Bool) : Option (Value × SW) := match r with
  | some b => some (.bool (match neg with | true => !b | false => b), σ)
  | none => none

theorem eqU (ox oy : Operand) (a b : List UInt8) : seq E 26 ox oy (aggU a b) (aggU a b) = some true := by
  have h : seq E 26 ox oy (aggU a b) (aggU a b) = (match some (beqBytes a a) with | some true => (match some (beqBytes b b) with | some true => some true | some false => some false | none => none) | some false => some false | none => none) := by kernel_rfl
  rw [h]
  simp [beqBytes_eq]
theorem eqR (ox oy : Operand) (a : List UInt8) (f : Bool) : seq E 28 ox oy (aggR a f) (aggR a f) = some true := by
  have h : seq E 28 ox oy (aggR a f) (aggR a f) = (match some (beqBytes a a) with | some true => (match some (f == f) with | some true => some true | some false => some false | none => none) | some false => some false | none => none) := by kernel_rfl
  rw [h]
  simp [beqBytes_eq]

noncomputable def asks (σ : SW) (l x : List UInt8) (e k : Bool) (c : Option (List UInt8 × List UInt8)) (u n : Bool) : Sh.Ask :=
  ⟨[(1, 0, .bool true, σ), (3, 3, .int .i64 (.ofNat (Nat.min l.length 200)), σ), (3, 4, strA x, σ), (4, 1, listW x e k, σ), (7, 1, .bool e, σ), (10, 1, .bool k, σ), (11, 2, .bool false, σ),
    (13, 1, V1 x c u, S1 σ x c u), (14, 1, V2 x c u, S2 (S1' σ x c u) x c), (15, 9, .bool false, S2' (S1' σ x c u) x c), (17, 1, V3 x c (n && rW c), S3 (S2' (S1' σ x c u) x c) x c (n && rW c)),
    (18, 1, V4 x c (rW c) n, S4 (S3' (S2' (S1' σ x c u) x c) x c (n && rW c)) x c (rW c)), (19, 10, .bool true, S4' (S3' (S2' (S1' σ x c u) x c) x c (n && rW c)) x c (rW c))], []⟩

noncomputable def headM (C : SCall) (σ : SW) (l x : List UInt8) (e k : Bool) : List Prop :=
  [C (.fn 11 #[]) σ = some (.bool true, σ), some (Value.int .i64 (bif iblt 200 (Int.ofNat l.length) then 200 else Int.ofNat l.length), σ) = some (.int .i64 (.ofNat (Nat.min l.length 200)), σ),
    sliceL l 0 (Nat.min l.length 200) σ = some (strA x, σ), C (.fn 31 #[strA x]) σ = some (listW x e k, σ), some (Value.bool (beqBytes x []), σ) = some (.bool e, σ)] ++
  (match e, k with
  | true, _ => []
  | false, true => [C (.fn 22 #[strA x]) σ = some (.bool true, σ), some (Value.bool (!beqBytes x x), σ) = some (.bool false, σ)]
  | false, false => [C (.fn 22 #[strA x]) σ = some (.bool false, σ)])

noncomputable def tailM (C : SCall) (σ : SW) (x : List UInt8) (c : Option (List UInt8 × List UInt8)) (u n : Bool) : List Prop :=
  [C (.fn 32 #[strA x]) σ = some (V1 x c u, S1 σ x c u), C (.fn 33 #[strA x]) (S1' σ x c u) = some (V2 x c u, S2 (S1' σ x c u) x c)] ++
  ((match u with | true => [eqσ (S2' (S1' σ x c u) x c) true (seq E 26 (.tmp 67) (.tmp 68) (aggU (uA c) (uB x c)) (aggU (uA c) (uB x c))) = some (.bool false, S2' (S1' σ x c u) x c)] | false => []) ++
  ([C (.fn 34 #[strA x]) (S2' (S1' σ x c u) x c) = some (V3 x c (n && rW c), S3 (S2' (S1' σ x c u) x c) x c (n && rW c)),
    C (.fn 35 #[strA x]) (S3' (S2' (S1' σ x c u) x c) x c (n && rW c)) = some (V4 x c (rW c) n, S4 (S3' (S2' (S1' σ x c u) x c) x c (n && rW c)) x c (rW c))] ++
  (match n && rW c with | true => [eqσ (S4' (S3' (S2' (S1' σ x c u) x c) x c (n && rW c)) x c (rW c)) false (seq E 28 (.tmp 103) (.tmp 104) (aggR (rA x c) (rF c)) (aggR (rA x c) (rF c))) = some (.bool true, S4' (S3' (S2' (S1' σ x c u) x c) x c (n && rW c)) x c (rW c))] | false => [])))

theorem law_ran (C : SCall) (e3 e5 ep : TypeId) (l x : List UInt8) (e k : Bool) (c : Option (List UInt8 × List UInt8)) (u n w : Bool) (hw : rW c = w) :
    oenter E C 1000 (asks (S0 e3 e5 ep) l x e k c u n) Tryz.f7 #[strA l] (S0 e3 e5 ep) =
      some ((.bool true, S4' (S3' (S2' (S1' (S0 e3 e5 ep) x c u) x c) x c (n && rW c)) x c (rW c)), headM C (S0 e3 e5 ep) l x e k ++ tailM C (S0 e3 e5 ep) x c u n) := by
  unfold asks tailM
  rw [hw]
  rcases c with _ | ⟨a, b⟩
  · obtain rfl : true = w := hw
    cases e <;> cases k <;> cases u <;> cases n <;> kernel_rfl
  · clear hw
    cases e <;> cases k <;> cases u <;> cases n <;> cases w <;> kernel_rfl
end Go.Proofs.YtffdpbhkkflgnaaGreatDoor
