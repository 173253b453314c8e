/- Facts of the program, and of a run, for the statement that imports this text. Conditions: as each theorem names them. -/
import Derived.Test.YtffdpbhkkflgnaaGreatDoorCuts
namespace Go.Proofs.YtffdpbhkkflgnaaGreatDoor
open Go Go.Sh Go.RowKit
set_option maxRecDepth 100000

/-! ## Units -/
noncomputable def strA (l : List UInt8) : Value := .string ⟨⟨l⟩⟩
noncomputable def cellsU (a b : List UInt8) (v : Nat) : SObj := .cells [strA a, strA b] 26 true false v
def long : List UInt8 := [108, 111, 110, 103]
def short : List UInt8 := [115, 104, 111, 114, 116]
def narrow : List UInt8 := [110, 97, 114, 114, 111, 119]

theorem cell_push {σ : SW} {c : List Value} {e : TypeId} {x f : Bool} {v k : Nat} {u : Value} (hn : σ.n < 10000) (h : c[k]? = some u) : withσ (σ.push (.cells c e x f v)) ((σ.push (.cells c e x f v)).cell ⟨σ.n, k, none⟩) = some (u, σ.push (.cells c e x f v)) := by
  have : (σ.push (.cells c e x f v)).get σ.n = some (.cells c e x f v) := T.get_set_lt _ (by simp only [Go.Sh.bits]; omega)
  have e1 : (σ.push (.cells c e x f v)).cell ⟨σ.n, k, none⟩ = some u := by
    unfold SW.cell
    simp only [this, h]
  rw [e1]
  rfl

noncomputable def rightB (a b : List UInt8) : Bool := (beqBytes a long || beqBytes a short || beqBytes a narrow) && okB b

theorem run39 {C : SCall} {σ : SW} {a b : List UInt8} (hn : σ.n < 10000) (hC : C (.fn 54 #[strA b]) (σ.push (cellsU a b 0)) = some (.bool (okB b), σ.push (cellsU a b 0))) :
    senter E C 1000 Tryz.f39 #[.agg #[strA a, strA b]] σ = some (.bool (rightB a b), σ.push (cellsU a b 0)) := by
  have l1 : withσ (σ.push (cellsU a b 0)) ((σ.push (cellsU a b 0)).cell ⟨σ.n, 0, none⟩) = some (strA a, σ.push (cellsU a b 0)) := cell_push hn rfl
  have l2 : withσ (σ.push (cellsU a b 0)) ((σ.push (cellsU a b 0)).cell ⟨σ.n, 1, none⟩) = some (strA b, σ.push (cellsU a b 0)) := cell_push hn rfl
  cases h0 : beqBytes a long with
  | true =>
    refine (oenter_sound (ask := ⟨[(1, 1, strA a, σ.push (cellsU a b 0)), (2, 0, .bool true, σ.push (cellsU a b 0)), (5, 1, strA b, σ.push (cellsU a b 0)), (5, 2, .bool (okB b), σ.push (cellsU a b 0))], []⟩) (r := (.bool (okB b), σ.push (cellsU a b 0))) (m := [withσ (σ.push (cellsU a b 0)) ((σ.push (cellsU a b 0)).cell ⟨σ.n, 0, none⟩) = some (strA a, σ.push (cellsU a b 0)), some (Value.bool (beqBytes a long), σ.push (cellsU a b 0)) = some (.bool true, σ.push (cellsU a b 0)), withσ (σ.push (cellsU a b 0)) ((σ.push (cellsU a b 0)).cell ⟨σ.n, 1, none⟩) = some (strA b, σ.push (cellsU a b 0)), C (.fn 54 #[strA b]) (σ.push (cellsU a b 0)) = some (.bool (okB b), σ.push (cellsU a b 0))]) (by kernel_rfl) ⟨l1, by rw [h0], l2, hC⟩).trans ?_
    simp [rightB, h0]
  | false =>
    cases h1 : beqBytes a short with
    | true =>
      refine (oenter_sound (ask := ⟨[(1, 1, strA a, σ.push (cellsU a b 0)), (2, 0, .bool false, σ.push (cellsU a b 0)), (3, 0, .bool true, σ.push (cellsU a b 0)), (5, 1, strA b, σ.push (cellsU a b 0)), (5, 2, .bool (okB b), σ.push (cellsU a b 0))], []⟩) (r := (.bool (okB b), σ.push (cellsU a b 0))) (m := [withσ (σ.push (cellsU a b 0)) ((σ.push (cellsU a b 0)).cell ⟨σ.n, 0, none⟩) = some (strA a, σ.push (cellsU a b 0)), some (Value.bool (beqBytes a long), σ.push (cellsU a b 0)) = some (.bool false, σ.push (cellsU a b 0)), some (Value.bool (beqBytes a short), σ.push (cellsU a b 0)) = some (.bool true, σ.push (cellsU a b 0)), withσ (σ.push (cellsU a b 0)) ((σ.push (cellsU a b 0)).cell ⟨σ.n, 1, none⟩) = some (strA b, σ.push (cellsU a b 0)), C (.fn 54 #[strA b]) (σ.push (cellsU a b 0)) = some (.bool (okB b), σ.push (cellsU a b 0))]) (by kernel_rfl) ⟨l1, by rw [h0], by rw [h1], l2, hC⟩).trans ?_
      simp [rightB, h0, h1]
    | false =>
      cases h2 : beqBytes a narrow with
      | true =>
        refine (oenter_sound (ask := ⟨[(1, 1, strA a, σ.push (cellsU a b 0)), (2, 0, .bool false, σ.push (cellsU a b 0)), (3, 0, .bool false, σ.push (cellsU a b 0)), (4, 0, .bool true, σ.push (cellsU a b 0)), (5, 1, strA b, σ.push (cellsU a b 0)), (5, 2, .bool (okB b), σ.push (cellsU a b 0))], []⟩) (r := (.bool (okB b), σ.push (cellsU a b 0))) (m := [withσ (σ.push (cellsU a b 0)) ((σ.push (cellsU a b 0)).cell ⟨σ.n, 0, none⟩) = some (strA a, σ.push (cellsU a b 0)), some (Value.bool (beqBytes a long), σ.push (cellsU a b 0)) = some (.bool false, σ.push (cellsU a b 0)), some (Value.bool (beqBytes a short), σ.push (cellsU a b 0)) = some (.bool false, σ.push (cellsU a b 0)), some (Value.bool (beqBytes a narrow), σ.push (cellsU a b 0)) = some (.bool true, σ.push (cellsU a b 0)), withσ (σ.push (cellsU a b 0)) ((σ.push (cellsU a b 0)).cell ⟨σ.n, 1, none⟩) = some (strA b, σ.push (cellsU a b 0)), C (.fn 54 #[strA b]) (σ.push (cellsU a b 0)) = some (.bool (okB b), σ.push (cellsU a b 0))]) (by kernel_rfl) ⟨l1, by rw [h0], by rw [h1], by rw [h2], l2, hC⟩).trans ?_
        simp [rightB, h0, h1, h2]
      | false =>
        refine (oenter_sound (ask := ⟨[(1, 1, strA a, σ.push (cellsU a b 0)), (2, 0, .bool false, σ.push (cellsU a b 0)), (3, 0, .bool false, σ.push (cellsU a b 0)), (4, 0, .bool false, σ.push (cellsU a b 0))], []⟩) (r := (.bool false, σ.push (cellsU a b 0))) (m := [withσ (σ.push (cellsU a b 0)) ((σ.push (cellsU a b 0)).cell ⟨σ.n, 0, none⟩) = some (strA a, σ.push (cellsU a b 0)), some (Value.bool (beqBytes a long), σ.push (cellsU a b 0)) = some (.bool false, σ.push (cellsU a b 0)), some (Value.bool (beqBytes a short), σ.push (cellsU a b 0)) = some (.bool false, σ.push (cellsU a b 0)), some (Value.bool (beqBytes a narrow), σ.push (cellsU a b 0)) = some (.bool false, σ.push (cellsU a b 0))]) (by kernel_rfl) ⟨l1, by rw [h0], by rw [h1], by rw [h2]; rfl⟩).trans ?_
        simp [rightB, h0, h1, h2]

theorem run15 {C : SCall} {σ : SW} {a b : List UInt8} (hn : σ.n < 10000) (hC : C (.fn 22 #[strA b]) (σ.push (cellsU a b 0)) = some (.bool (okB b), σ.push (cellsU a b 0))) :
    senter E C 1000 Tryz.f15 #[.agg #[strA a, strA b]] σ = some (.bool (rightB a b), σ.push (cellsU a b 0)) := by
  have l1 : withσ (σ.push (cellsU a b 0)) ((σ.push (cellsU a b 0)).cell ⟨σ.n, 0, none⟩) = some (strA a, σ.push (cellsU a b 0)) := cell_push hn rfl
  have l2 : withσ (σ.push (cellsU a b 0)) ((σ.push (cellsU a b 0)).cell ⟨σ.n, 1, none⟩) = some (strA b, σ.push (cellsU a b 0)) := cell_push hn rfl
  cases h0 : beqBytes a long with
  | true =>
    refine (oenter_sound (ask := ⟨[(1, 1, strA a, σ.push (cellsU a b 0)), (1, 2, .bool true, σ.push (cellsU a b 0)), (1, 15, strA b, σ.push (cellsU a b 0)), (1, 16, .bool (okB b), σ.push (cellsU a b 0))], []⟩) (r := (.bool (okB b), σ.push (cellsU a b 0))) (m := [withσ (σ.push (cellsU a b 0)) ((σ.push (cellsU a b 0)).cell ⟨σ.n, 0, none⟩) = some (strA a, σ.push (cellsU a b 0)), some (Value.bool (beqBytes a long), σ.push (cellsU a b 0)) = some (.bool true, σ.push (cellsU a b 0)), withσ (σ.push (cellsU a b 0)) ((σ.push (cellsU a b 0)).cell ⟨σ.n, 1, none⟩) = some (strA b, σ.push (cellsU a b 0)), C (.fn 22 #[strA b]) (σ.push (cellsU a b 0)) = some (.bool (okB b), σ.push (cellsU a b 0))]) (by kernel_rfl) ⟨l1, by rw [h0], l2, hC⟩).trans ?_
    simp [rightB, h0]
  | false =>
    cases h1 : beqBytes a short with
    | true =>
      refine (oenter_sound (ask := ⟨[(1, 1, strA a, σ.push (cellsU a b 0)), (1, 2, .bool false, σ.push (cellsU a b 0)), (1, 5, strA a, σ.push (cellsU a b 0)), (1, 6, .bool true, σ.push (cellsU a b 0)), (1, 15, strA b, σ.push (cellsU a b 0)), (1, 16, .bool (okB b), σ.push (cellsU a b 0))], []⟩) (r := (.bool (okB b), σ.push (cellsU a b 0))) (m := [withσ (σ.push (cellsU a b 0)) ((σ.push (cellsU a b 0)).cell ⟨σ.n, 0, none⟩) = some (strA a, σ.push (cellsU a b 0)), some (Value.bool (beqBytes a long), σ.push (cellsU a b 0)) = some (.bool false, σ.push (cellsU a b 0)), withσ (σ.push (cellsU a b 0)) ((σ.push (cellsU a b 0)).cell ⟨σ.n, 0, none⟩) = some (strA a, σ.push (cellsU a b 0)), some (Value.bool (beqBytes a short), σ.push (cellsU a b 0)) = some (.bool true, σ.push (cellsU a b 0)), withσ (σ.push (cellsU a b 0)) ((σ.push (cellsU a b 0)).cell ⟨σ.n, 1, none⟩) = some (strA b, σ.push (cellsU a b 0)), C (.fn 22 #[strA b]) (σ.push (cellsU a b 0)) = some (.bool (okB b), σ.push (cellsU a b 0))]) (by kernel_rfl) ⟨l1, by rw [h0], l1, by rw [h1], l2, hC⟩).trans ?_
      simp [rightB, h0, h1]
    | false =>
      cases h2 : beqBytes a narrow with
      | true =>
        refine (oenter_sound (ask := ⟨[(1, 1, strA a, σ.push (cellsU a b 0)), (1, 2, .bool false, σ.push (cellsU a b 0)), (1, 5, strA a, σ.push (cellsU a b 0)), (1, 6, .bool false, σ.push (cellsU a b 0)), (1, 10, strA a, σ.push (cellsU a b 0)), (1, 11, .bool true, σ.push (cellsU a b 0)), (1, 15, strA b, σ.push (cellsU a b 0)), (1, 16, .bool (okB b), σ.push (cellsU a b 0))], []⟩) (r := (.bool (okB b), σ.push (cellsU a b 0))) (m := [withσ (σ.push (cellsU a b 0)) ((σ.push (cellsU a b 0)).cell ⟨σ.n, 0, none⟩) = some (strA a, σ.push (cellsU a b 0)), some (Value.bool (beqBytes a long), σ.push (cellsU a b 0)) = some (.bool false, σ.push (cellsU a b 0)), withσ (σ.push (cellsU a b 0)) ((σ.push (cellsU a b 0)).cell ⟨σ.n, 0, none⟩) = some (strA a, σ.push (cellsU a b 0)), some (Value.bool (beqBytes a short), σ.push (cellsU a b 0)) = some (.bool false, σ.push (cellsU a b 0)), withσ (σ.push (cellsU a b 0)) ((σ.push (cellsU a b 0)).cell ⟨σ.n, 0, none⟩) = some (strA a, σ.push (cellsU a b 0)), some (Value.bool (beqBytes a narrow), σ.push (cellsU a b 0)) = some (.bool true, σ.push (cellsU a b 0)), withσ (σ.push (cellsU a b 0)) ((σ.push (cellsU a b 0)).cell ⟨σ.n, 1, none⟩) = some (strA b, σ.push (cellsU a b 0)), C (.fn 22 #[strA b]) (σ.push (cellsU a b 0)) = some (.bool (okB b), σ.push (cellsU a b 0))]) (by kernel_rfl) ⟨l1, by rw [h0], l1, by rw [h1], l1, by rw [h2], l2, hC⟩).trans ?_
        simp [rightB, h0, h1, h2]
      | false =>
        refine (oenter_sound (ask := ⟨[(1, 1, strA a, σ.push (cellsU a b 0)), (1, 2, .bool false, σ.push (cellsU a b 0)), (1, 5, strA a, σ.push (cellsU a b 0)), (1, 6, .bool false, σ.push (cellsU a b 0)), (1, 10, strA a, σ.push (cellsU a b 0)), (1, 11, .bool false, σ.push (cellsU a b 0))], []⟩) (r := (.bool false, σ.push (cellsU a b 0))) (m := [withσ (σ.push (cellsU a b 0)) ((σ.push (cellsU a b 0)).cell ⟨σ.n, 0, none⟩) = some (strA a, σ.push (cellsU a b 0)), some (Value.bool (beqBytes a long), σ.push (cellsU a b 0)) = some (.bool false, σ.push (cellsU a b 0)), withσ (σ.push (cellsU a b 0)) ((σ.push (cellsU a b 0)).cell ⟨σ.n, 0, none⟩) = some (strA a, σ.push (cellsU a b 0)), some (Value.bool (beqBytes a short), σ.push (cellsU a b 0)) = some (.bool false, σ.push (cellsU a b 0)), withσ (σ.push (cellsU a b 0)) ((σ.push (cellsU a b 0)).cell ⟨σ.n, 0, none⟩) = some (strA a, σ.push (cellsU a b 0)), some (Value.bool (beqBytes a narrow), σ.push (cellsU a b 0)) = some (.bool false, σ.push (cellsU a b 0))]) (by kernel_rfl) ⟨l1, by rw [h0], l1, by rw [h1], l1, by rw [h2]; rfl⟩).trans ?_
        simp [rightB, h0, h1, h2]

theorem right39 (d : Nat) {σ : SW} {a b : List UInt8} (hn : σ.n < 10000) (hl : b.length < 900) : scall E 1000 (d + 7) (.fn 39 #[.agg #[strA a, strA b]]) σ = some (.bool (rightB a b), σ.push (cellsU a b 0)) :=
  (enter_at (f := 39) (fn := Tryz.f39) (by kernel_rfl) (d + 6) _ σ).trans (run39 hn (name54 d hl))
theorem right15 (d : Nat) {σ : SW} {a b : List UInt8} (hn : σ.n < 10000) (hl : b.length < 900) : scall E 1000 (d + 6) (.fn 15 #[.agg #[strA a, strA b]]) σ = some (.bool (rightB a b), σ.push (cellsU a b 0)) :=
  (enter_at (f := 15) (fn := Tryz.f15) (by kernel_rfl) (d + 5) _ σ).trans (run15 hn (name22 d hl))
end Go.Proofs.YtffdpbhkkflgnaaGreatDoor
