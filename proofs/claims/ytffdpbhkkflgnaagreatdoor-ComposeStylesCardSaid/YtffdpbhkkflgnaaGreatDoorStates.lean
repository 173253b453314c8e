/- Facts of the program, and of a run, for the statement that imports this text. Conditions: as each theorem names them. -/
import Derived.Test.YtffdpbhkkflgnaaGreatDoorUnits
namespace Go.Proofs.YtffdpbhkkflgnaaGreatDoor
open Go Go.Sh Go.RowKit
set_option maxRecDepth 100000

/-! ## The states that the styles go through -/
noncomputable def cutP (x : List UInt8) : Option (List UInt8 × List UInt8) := (cutIx x).map fun i => (x.take i, x.drop (i + 1))
noncomputable def cutW (x : List UInt8) : Option (List UInt8 × List UInt8) → Value
  | some (a, b) => .tuple #[strA a, strA b, .bool true]
  | none => .tuple #[strA x, strA [], .bool false]
noncomputable def cutS (c : Option (List UInt8 × List UInt8)) (σ : SW) : SW := match c with
  | some _ => bump σ
  | none => σ
theorem cut65' (d : Nat) {σ : SW} {x : List UInt8} (hl : x.length < 10000) : scall E 1000 (d + 5) (.fn 65 #[strA x, strA [47]]) σ = some (cutW x (cutP x), cutS (cutP x) σ) := by
  have h := cut65 d (σ := σ) hl
  unfold cutV cutσ at h
  unfold cutP
  cases hx : cutIx x with
  | none => rw [hx] at h; exact h
  | some i => rw [hx] at h; exact h

noncomputable def uA : Option (List UInt8 × List UInt8) → List UInt8
  | some (a, _) => a
  | none => long
noncomputable def uB (x : List UInt8) : Option (List UInt8 × List UInt8) → List UInt8
  | some (_, b) => b
  | none => x
noncomputable def zU : SObj := cellsU [] [] 0
noncomputable def u0 (σ : SW) (x : List UInt8) : SW := ((σ.push zU).push zU).setObj (σ.n + 1) (cellsU long x 1)
noncomputable def uS (σ : SW) (x : List UInt8) (c : Option (List UInt8 × List UInt8)) : SW := match c with
  | some (a, b) => (bump (u0 σ x)).setObj (σ.n + 1) (cellsU a b 2)
  | none => u0 σ x
noncomputable def bump5 (σ : SW) : SW := ⟨σ.h, σ.n + 5, σ.b⟩
noncomputable def aggU (a b : List UInt8) : Value := .agg #[strA a, strA b]

noncomputable def S0 (e3 e5 ep : TypeId) : SW := σof (objs e3 e5 ep 0)
/-- behind compose.UnitStyle -/
noncomputable def S1 (σ : SW) (x : List UInt8) (c : Option (List UInt8 × List UInt8)) (ok : Bool) : SW :=
  ((uS σ x c).push (cellsU (uA c) (uB x c) 0)).setObj σ.n (bif ok then cellsU (uA c) (uB x c) 1 else cellsU [] [] 1)
noncomputable def V1 (x : List UInt8) (c : Option (List UInt8 × List UInt8)) (ok : Bool) : Value := bif ok then .tuple #[aggU (uA c) (uB x c), .int .i64 0] else .tuple #[aggU [] [], .int .i64 2]
noncomputable def S1' (σ : SW) (x : List UInt8) (c : Option (List UInt8 × List UInt8)) (ok : Bool) : SW := ((S1 σ x c ok).push zU).setObj (S1 σ x c ok).n (bif ok then cellsU (uA c) (uB x c) 1 else cellsU [] [] 1)
/-- behind the reference's UnitStyle -/
noncomputable def S2 (σ : SW) (x : List UInt8) (c : Option (List UInt8 × List UInt8)) : SW := ((bump5 (uS σ x c)).push (cellsU (uA c) (uB x c) 0)).setObj σ.n (cellsU (uA c) (uB x c) 1)
noncomputable def V2 (x : List UInt8) (c : Option (List UInt8 × List UInt8)) (ok : Bool) : Value := .tuple #[aggU (uA c) (uB x c), .bool ok]
noncomputable def S2' (σ : SW) (x : List UInt8) (c : Option (List UInt8 × List UInt8)) : SW := ((S2 σ x c).push zU).setObj (S2 σ x c).n (cellsU (uA c) (uB x c) 1)

theorem run32 {C : SCall} (e3 e5 ep : TypeId) (x : List UInt8) (c : Option (List UInt8 × List UInt8)) (ok : Bool) (h65 : C (.fn 65 #[strA x, strA [47]]) (u0 (S0 e3 e5 ep) x) = some (cutW x c, cutS c (u0 (S0 e3 e5 ep) x)))
    (h39 : C (.fn 39 #[aggU (uA c) (uB x c)]) (uS (S0 e3 e5 ep) x c) = some (.bool ok, (uS (S0 e3 e5 ep) x c).push (cellsU (uA c) (uB x c) 0))) :
    senter E C 1000 Tryz.f32 #[strA x] (S0 e3 e5 ep) = some (V1 x c ok, S1 (S0 e3 e5 ep) x c ok) := by
  refine oenter_sound (ask := ⟨[(2, 1, cutW x c, cutS c (u0 (S0 e3 e5 ep) x)), (5, 1, .bool ok, (uS (S0 e3 e5 ep) x c).push (cellsU (uA c) (uB x c) 0))], []⟩)
    (m := [C (.fn 65 #[strA x, strA [47]]) (u0 (S0 e3 e5 ep) x) = some (cutW x c, cutS c (u0 (S0 e3 e5 ep) x)), C (.fn 39 #[aggU (uA c) (uB x c)]) (uS (S0 e3 e5 ep) x c) = some (.bool ok, (uS (S0 e3 e5 ep) x c).push (cellsU (uA c) (uB x c) 0))]) ?_ ⟨h65, h39⟩
  rcases c with _ | ⟨a, b⟩ <;> cases ok <;> kernel_rfl

theorem run33 {C : SCall} (e3 e5 ep : TypeId) (x : List UInt8) (c : Option (List UInt8 × List UInt8)) (ok : Bool) :
    ∀ σ, σ = S1' (S0 e3 e5 ep) x c ok → ∀ (_ : C (.fn 65 #[strA x, strA [47]]) (u0 σ x) = some (cutW x c, cutS c (u0 σ x)))
    (_ : C (.fn 15 #[aggU (uA c) (uB x c)]) (bump5 (uS σ x c)) = some (.bool ok, (bump5 (uS σ x c)).push (cellsU (uA c) (uB x c) 0))),
    senter E C 1000 Tryz.f33 #[strA x] σ = some (V2 x c ok, S2 σ x c) := by
  intro σ hσ h65 h15
  refine oenter_sound (ask := ⟨[(2, 1, cutW x c, cutS c (u0 σ x)), (5, 2, .bool ok, (bump5 (uS σ x c)).push (cellsU (uA c) (uB x c) 0))], []⟩)
    (m := [C (.fn 65 #[strA x, strA [47]]) (u0 σ x) = some (cutW x c, cutS c (u0 σ x)), C (.fn 15 #[aggU (uA c) (uB x c)]) (bump5 (uS σ x c)) = some (.bool ok, (bump5 (uS σ x c)).push (cellsU (uA c) (uB x c) 0)),
      some (aggU (uA c) (uB x c), bump5 (uS σ x c)) = some (aggU (uA c) (uB x c), bump5 (uS σ x c)), some (aggU (uA c) (uB x c), (bump5 (uS σ x c)).push (cellsU (uA c) (uB x c) 0)) = some (aggU (uA c) (uB x c), (bump5 (uS σ x c)).push (cellsU (uA c) (uB x c) 0)),
      some (aggU (uA c) (uB x c), bump5 (uS σ x c)) = some (aggU (uA c) (uB x c), bump5 (uS σ x c))]) ?_ ⟨h65, h15, rfl, rfl, rfl⟩
  subst hσ
  rcases c with _ | ⟨a, b⟩ <;> cases ok <;> kernel_rfl
end Go.Proofs.YtffdpbhkkflgnaaGreatDoor
