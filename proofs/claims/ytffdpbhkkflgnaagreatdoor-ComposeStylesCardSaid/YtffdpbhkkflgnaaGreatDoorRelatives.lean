/- Facts of the program, and of a run, for the statement that imports this text. Conditions: as each theorem names them. -/
import Derived.Test.YtffdpbhkkflgnaaGreatDoorStates
namespace Go.Proofs.YtffdpbhkkflgnaaGreatDoor
open Go Go.Sh Go.RowKit
set_option maxRecDepth 100000

/-! ## RelativeStyle -/
def always : List UInt8 := [97, 108, 119, 97, 121, 115]
noncomputable def cellsR (a : List UInt8) (f : Bool) (v : Nat) : SObj := .cells [strA a, .bool f] 28 true false v
noncomputable def aggR (a : List UInt8) (f : Bool) : Value := .agg #[strA a, .bool f]
noncomputable def rA (x : List UInt8) : Option (List UInt8 × List UInt8) → List UInt8
  | some (a, _) => a
  | none => x
noncomputable def rF : Option (List UInt8 × List UInt8) → Bool
  | some _ => true
  | none => false
noncomputable def rW : Option (List UInt8 × List UInt8) → Bool
  | some (_, b) => beqBytes b always
  | none => true
noncomputable def zR : SObj := cellsR [] false 0
noncomputable def r34 (σ : SW) (c : Option (List UInt8 × List UInt8)) : SW := cutS c (σ.push zR)
noncomputable def S3 (σ : SW) (x : List UInt8) (c : Option (List UInt8 × List UInt8)) (ok : Bool) : SW := (r34 σ c).setObj σ.n (bif ok then cellsR (rA x c) (rF c) 1 else cellsR [] false 1)
noncomputable def V3 (x : List UInt8) (c : Option (List UInt8 × List UInt8)) (ok : Bool) : Value := bif ok then .tuple #[aggR (rA x c) (rF c), .int .i64 0] else .tuple #[aggR [] false, .int .i64 2]
noncomputable def S3' (σ : SW) (x : List UInt8) (c : Option (List UInt8 × List UInt8)) (ok : Bool) : SW := ((S3 σ x c ok).push zR).setObj (S3 σ x c ok).n (bif ok then cellsR (rA x c) (rF c) 1 else cellsR [] false 1)

theorem run34 {C : SCall} (e3 e5 ep : TypeId) (x : List UInt8) (c : Option (List UInt8 × List UInt8)) (u n : Bool) :
    ∀ σ, σ = S2' (S1' (S0 e3 e5 ep) x c u) x c → ∀ (_ : C (.fn 65 #[strA x, strA [47]]) (σ.push zR) = some (cutW x c, cutS c (σ.push zR)))
    (_ : C (.fn 54 #[strA (rA x c)]) (r34 σ c) = some (.bool n, r34 σ c)),
    senter E C 1000 Tryz.f34 #[strA x] σ = some (V3 x c (n && rW c), S3 σ x c (n && rW c)) := by
  intro σ hσ h65 h54
  cases n with
  | false =>
    refine oenter_sound (ask := ⟨[(1, 1, cutW x c, cutS c (σ.push zR)), (2, 1, .bool false, r34 σ c)], []⟩)
      (m := [C (.fn 65 #[strA x, strA [47]]) (σ.push zR) = some (cutW x c, cutS c (σ.push zR)), C (.fn 54 #[strA (rA x c)]) (r34 σ c) = some (.bool false, r34 σ c)]) ?_ ⟨h65, h54⟩
    subst hσ
    rcases c with _ | ⟨a, b⟩ <;> cases u <;> kernel_rfl
  | true =>
    rcases c with _ | ⟨a, b⟩
    · refine oenter_sound (ask := ⟨[(1, 1, cutW x none, cutS none (σ.push zR)), (2, 1, .bool true, r34 σ none)], []⟩)
        (m := [C (.fn 65 #[strA x, strA [47]]) (σ.push zR) = some (cutW x none, cutS none (σ.push zR)), C (.fn 54 #[strA (rA x none)]) (r34 σ none) = some (.bool true, r34 σ none)]) ?_ ⟨h65, h54⟩
      subst hσ
      cases u <;> kernel_rfl
    · generalize hw : rW (some (a, b)) = w
      have hw' : beqBytes b always = w := hw
      refine oenter_sound (ask := ⟨[(1, 1, cutW x (some (a, b)), cutS (some (a, b)) (σ.push zR)), (2, 1, .bool true, r34 σ (some (a, b))), (2, 7, .bool (!w), r34 σ (some (a, b)))], []⟩)
        (m := [C (.fn 65 #[strA x, strA [47]]) (σ.push zR) = some (cutW x (some (a, b)), cutS (some (a, b)) (σ.push zR)), C (.fn 54 #[strA (rA x (some (a, b)))]) (r34 σ (some (a, b))) = some (.bool true, r34 σ (some (a, b))),
          some (Value.bool (!beqBytes b always), r34 σ (some (a, b))) = some (.bool (!w), r34 σ (some (a, b)))]) ?_ ⟨h65, h54, by rw [hw']; rfl⟩
      subst hσ
      cases u <;> cases w <;> kernel_rfl

noncomputable def r0 (σ : SW) (x : List UInt8) : SW := ((σ.push zR).push zR).setObj (σ.n + 1) (cellsR x false 1)
noncomputable def rS (σ : SW) (x : List UInt8) (c : Option (List UInt8 × List UInt8)) : SW := match c with
  | some (a, _) => (bump (r0 σ x)).setObj (σ.n + 1) (cellsR a true 2)
  | none => r0 σ x
noncomputable def bump6 (σ : SW) : SW := ⟨σ.h, σ.n + 6, σ.b⟩
noncomputable def S4 (σ : SW) (x : List UInt8) (c : Option (List UInt8 × List UInt8)) (w : Bool) : SW := bif w then (bump6 (rS σ x c)).setObj σ.n (cellsR (rA x c) (rF c) 1) else (rS σ x c).setObj σ.n (cellsR [] false 1)
noncomputable def V4 (x : List UInt8) (c : Option (List UInt8 × List UInt8)) (w n : Bool) : Value := bif w then .tuple #[aggR (rA x c) (rF c), .bool n] else .tuple #[aggR [] false, .bool false]
noncomputable def S4' (σ : SW) (x : List UInt8) (c : Option (List UInt8 × List UInt8)) (w : Bool) : SW := ((S4 σ x c w).push zR).setObj (S4 σ x c w).n (bif w then cellsR (rA x c) (rF c) 1 else cellsR [] false 1)

theorem run35 {C : SCall} (e3 e5 ep : TypeId) (x : List UInt8) (c : Option (List UInt8 × List UInt8)) (u n : Bool) :
    ∀ σ, σ = S3' (S2' (S1' (S0 e3 e5 ep) x c u) x c) x c (n && rW c) → ∀ (_ : C (.fn 65 #[strA x, strA [47]]) (r0 σ x) = some (cutW x c, cutS c (r0 σ x)))
    (_ : C (.fn 22 #[strA (rA x c)]) (bump6 (rS σ x c)) = some (.bool n, bump6 (rS σ x c))),
    senter E C 1000 Tryz.f35 #[strA x] σ = some (V4 x c (rW c) n, S4 σ x c (rW c)) := by
  intro σ hσ h65 h22
  rcases c with _ | ⟨a, b⟩
  · refine oenter_sound (ask := ⟨[(2, 1, cutW x none, cutS none (r0 σ x)), (7, 3, .bool n, bump6 (rS σ x none))], []⟩)
      (m := [C (.fn 65 #[strA x, strA [47]]) (r0 σ x) = some (cutW x none, cutS none (r0 σ x)), C (.fn 22 #[strA (rA x none)]) (bump6 (rS σ x none)) = some (.bool n, bump6 (rS σ x none)),
        some (aggR x false, bump6 (rS σ x none)) = some (aggR x false, bump6 (rS σ x none)), some (aggR x false, bump6 (rS σ x none)) = some (aggR x false, bump6 (rS σ x none)), some (strA x, bump6 (rS σ x none)) = some (strA x, bump6 (rS σ x none))]) ?_ ⟨h65, h22, rfl, rfl, rfl⟩
    subst hσ
    cases u <;> cases n <;> kernel_rfl
  · generalize hw : rW (some (a, b)) = w at hσ ⊢
    have hw' : beqBytes b always = w := hw
    cases w with
    | false =>
      refine oenter_sound (ask := ⟨[(2, 1, cutW x (some (a, b)), cutS (some (a, b)) (r0 σ x)), (5, 1, .bool true, rS σ x (some (a, b)))], []⟩)
        (m := [C (.fn 65 #[strA x, strA [47]]) (r0 σ x) = some (cutW x (some (a, b)), cutS (some (a, b)) (r0 σ x)), some (Value.bool (!beqBytes b always), rS σ x (some (a, b))) = some (.bool true, rS σ x (some (a, b)))]) ?_ ⟨h65, by rw [hw']; rfl⟩
      subst hσ
      cases u <;> cases n <;> kernel_rfl
    | true =>
      refine oenter_sound (ask := ⟨[(2, 1, cutW x (some (a, b)), cutS (some (a, b)) (r0 σ x)), (5, 1, .bool false, rS σ x (some (a, b))), (7, 3, .bool n, bump6 (rS σ x (some (a, b))))], []⟩)
        (m := [C (.fn 65 #[strA x, strA [47]]) (r0 σ x) = some (cutW x (some (a, b)), cutS (some (a, b)) (r0 σ x)), some (Value.bool (!beqBytes b always), rS σ x (some (a, b))) = some (.bool false, rS σ x (some (a, b))),
          C (.fn 22 #[strA a]) (bump6 (rS σ x (some (a, b)))) = some (.bool n, bump6 (rS σ x (some (a, b)))),
          some (aggR a true, bump6 (rS σ x (some (a, b)))) = some (aggR a true, bump6 (rS σ x (some (a, b)))), some (aggR a true, bump6 (rS σ x (some (a, b)))) = some (aggR a true, bump6 (rS σ x (some (a, b)))), some (strA a, bump6 (rS σ x (some (a, b)))) = some (strA a, bump6 (rS σ x (some (a, b))))]) ?_ ⟨h65, by rw [hw']; rfl, h22, rfl, rfl, rfl⟩
      subst hσ
      cases u <;> cases n <;> kernel_rfl
end Go.Proofs.YtffdpbhkkflgnaaGreatDoor
