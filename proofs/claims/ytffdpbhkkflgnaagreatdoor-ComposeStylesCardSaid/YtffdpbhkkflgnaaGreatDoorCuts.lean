/- Facts of the program, and of a run, for the statement that imports this text. Conditions: as each theorem names them. -/
import Derived.Test.YtffdpbhkkflgnaaGreatDoorNames
namespace Go.Proofs.YtffdpbhkkflgnaaGreatDoor
open Go Go.Sh Go.RowKit
set_option maxRecDepth 100000

/-! ## strings.Cut at a slash -/
noncomputable def ix (l : List UInt8) : Option Nat := (List.range (⟨⟨l⟩⟩ : ByteArray).size).find? fun i => (⟨⟨l⟩⟩ : ByteArray)[i]! == (47 : Int).toNat.toUInt8

theorem ix_lt {l : List UInt8} {i : Nat} (h : ix l = some i) : i < l.length := List.mem_range.1 (List.mem_of_find?_eq_some h)

noncomputable def ixV (o : Option Nat) : Value := match o with
  | some i => .int .i64 (.ofNat i)
  | none => .int .i64 (-1)

theorem indexByte_run (σ : SW) (l : List UInt8) : srun E.P (Extern.BytealgIndexByte.indexByte #[.string ⟨⟨l⟩⟩, .int .u8 47]) σ = some (ixV (ix l), σ) := by
  show srun E.P (match ix l with | some i => pure (goInt i) | none => pure (goInt (-1))) σ = some (ixV (ix l), σ)
  cases ix l <;> rfl

theorem run122 {C : SCall} {σ : SW} {l : List UInt8} : senter E C 1000 Tryz.f122 #[.string ⟨⟨l⟩⟩, .int .u8 47] σ = some (ixV (ix l), σ) := by
  refine oenter_sound (ask := ⟨[(1, 2, ixV (ix l), σ)], []⟩) (m := [srun E.P (Extern.BytealgIndexByte.indexByte #[.string ⟨⟨l⟩⟩, .int .u8 47]) σ = some (ixV (ix l), σ)]) (by kernel_rfl) ?_
  exact indexByte_run σ l

noncomputable def cutIx (l : List UInt8) : Option Nat := match beqBytes [47] l with
  | true => some 0
  | false => ix l

theorem cutIx_lt {l : List UInt8} {i : Nat} (h : cutIx l = some i) : i < l.length := by
  unfold cutIx at h
  cases hb : beqBytes [47] l with
  | true =>
    rw [hb] at h
    rw [beqBytes_eq] at hb
    have : l = [47] := by simpa using (beq_iff_eq.1 hb).symm
    subst this
    cases h
    simp
  | false => rw [hb] at h; exact ix_lt h

theorem run64 {C : SCall} {σ : SW} {l : List UInt8} (hC : C (.fn 122 #[.string ⟨⟨l⟩⟩, .int .u8 47]) σ = some (ixV (ix l), σ)) : senter E C 1000 Tryz.f64 #[.string ⟨⟨l⟩⟩, .string ⟨⟨[47]⟩⟩] σ = some (ixV (cutIx l), σ) := by
  cases hb : beqBytes [47] l with
  | true =>
    refine (oenter_sound (ask := ⟨[(2, 5, .bool true, σ)], []⟩) (m := [some (Value.bool (beqBytes [47] l), σ) = some (.bool true, σ)]) (r := (.int .i64 (.ofNat 0), σ)) (by kernel_rfl) ?_).trans ?_
    · show some (Value.bool (beqBytes [47] l), σ) = some (.bool true, σ)
      rw [hb]
    · simp [cutIx, hb, ixV]
  | false =>
    refine (oenter_sound (ask := ⟨[(2, 5, .bool false, σ), (5, 3, ixV (ix l), σ)], []⟩) (m := [some (Value.bool (beqBytes [47] l), σ) = some (.bool false, σ), C (.fn 122 #[.string ⟨⟨l⟩⟩, .int .u8 47]) σ = some (ixV (ix l), σ)]) (r := (ixV (ix l), σ)) (by kernel_rfl) ?_).trans ?_
    · exact ⟨by rw [hb], hC⟩
    · simp [cutIx, hb]


noncomputable def bump (σ : SW) : SW := ⟨σ.h, σ.n + 12, σ.b⟩
noncomputable def cutV (l : List UInt8) : Value := match cutIx l with
  | some i => .tuple #[.string ⟨⟨l.take i⟩⟩, .string ⟨⟨l.drop (i + 1)⟩⟩, .bool true]
  | none => .tuple #[.string ⟨⟨l⟩⟩, .string ⟨⟨[]⟩⟩, .bool false]
noncomputable def cutσ (l : List UInt8) (σ : SW) : SW := match cutIx l with
  | some _ => bump σ
  | none => σ

noncomputable def sliceL (l : List UInt8) (a b : Nat) (σ : SW) : Option (Value × SW) := bif Nat.ble a b && Nat.ble b l.length then some (.string ⟨⟨(l.drop a).take (b - a)⟩⟩, σ) else none
theorem sliceL_eq {l : List UInt8} {a b : Nat} (h1 : a ≤ b) (h2 : b ≤ l.length) (σ : SW) : sliceL l a b σ = some (.string ⟨⟨(l.drop a).take (b - a)⟩⟩, σ) := by
  unfold sliceL
  rw [Nat.ble_eq_true_of_le h1, Nat.ble_eq_true_of_le h2]
  rfl

theorem run126 {C : SCall} {σ : SW} {l : List UInt8} (hl : l.length < 10000) (hC : C (.fn 64 #[.string ⟨⟨l⟩⟩, .string ⟨⟨[47]⟩⟩]) σ = some (ixV (cutIx l), σ)) : senter E C 1000 Tryz.f126 #[.string ⟨⟨l⟩⟩, .string ⟨⟨[47]⟩⟩] σ = some (cutV l, cutσ l σ) := by
  unfold cutV cutσ
  cases hx : cutIx l with
  | none =>
    rw [hx] at hC
    exact oenter_sound (ask := ⟨[(1, 2, .int .i64 (-1), σ)], []⟩) (m := [C (.fn 64 #[.string ⟨⟨l⟩⟩, .string ⟨⟨[47]⟩⟩]) σ = some (.int .i64 (-1), σ)]) (by kernel_rfl) hC
  | some i =>
    rw [hx] at hC
    have hlt := cutIx_lt hx
    have e1 : l.take i = (l.drop 0).take (i - 0) := by simp
    have e2 : l.drop (i + 1) = (l.drop (i + 1)).take (l.length - (i + 1)) := by
      rw [List.take_of_length_le]
      simp
    refine oenter_sound (ask := ⟨[(1, 2, .int .i64 (.ofNat i), σ), (3, 2, .string ⟨⟨l.take i⟩⟩, bump σ), (3, 7, .int .i64 (.ofNat (i + 1)), bump σ), (3, 8, .string ⟨⟨l.drop (i + 1)⟩⟩, bump σ)], []⟩)
      (m := [C (.fn 64 #[.string ⟨⟨l⟩⟩, .string ⟨⟨[47]⟩⟩]) σ = some (.int .i64 (.ofNat i), σ), sliceL l 0 i (bump σ) = some (.string ⟨⟨l.take i⟩⟩, bump σ),
        some (Value.int .i64 (bif Nat.blt (i + 1) (half .i64) then Int.ofNat (i + 1) else IntKind.i64.wrap (.ofNat (i + 1))), bump σ) = some (.int .i64 (.ofNat (i + 1)), bump σ),
        sliceL l (i + 1) l.length (bump σ) = some (.string ⟨⟨l.drop (i + 1)⟩⟩, bump σ)]) (by kernel_rfl) ?_
    refine ⟨hC, ?_, ?_, ?_⟩
    · rw [e1]; exact sliceL_eq (Nat.zero_le _) (by omega) _
    · rw [wrap_small (by simp only [half]; omega)]
    · rw [e2]; exact sliceL_eq (by omega) (Nat.le_refl _) _

/-- strings.Cut at a slash -/
theorem cut65 (d : Nat) {σ : SW} {l : List UInt8} (hl : l.length < 10000) : scall E 1000 (d + 5) (.fn 65 #[.string ⟨⟨l⟩⟩, .string ⟨⟨[47]⟩⟩]) σ = some (cutV l, cutσ l σ) := by
  have h122 : scall E 1000 (d + 2) (.fn 122 #[.string ⟨⟨l⟩⟩, .int .u8 47]) σ = some (ixV (ix l), σ) := (enter_at (f := 122) (fn := Tryz.f122) (by kernel_rfl) (d + 1) _ σ).trans run122
  have h64 : scall E 1000 (d + 3) (.fn 64 #[.string ⟨⟨l⟩⟩, .string ⟨⟨[47]⟩⟩]) σ = some (ixV (cutIx l), σ) := (enter_at (f := 64) (fn := Tryz.f64) (by kernel_rfl) (d + 2) _ σ).trans (run64 h122)
  have h126 : scall E 1000 (d + 4) (.fn 126 #[.string ⟨⟨l⟩⟩, .string ⟨⟨[47]⟩⟩]) σ = some (cutV l, cutσ l σ) := (enter_at (f := 126) (fn := Tryz.f126) (by kernel_rfl) (d + 3) _ σ).trans (run126 hl h64)
  rw [enter_at (f := 65) (fn := Tryz.f65) (by kernel_rfl) (d + 4)]
  unfold cutV cutσ at h126 ⊢
  cases hx : cutIx l with
  | none =>
    rw [hx] at h126
    exact oenter_sound (ask := ⟨[(1, 2, .tuple #[.string ⟨⟨l⟩⟩, .string ⟨⟨[]⟩⟩, .bool false], σ)], []⟩) (m := [scall E 1000 (d + 4) (.fn 126 #[.string ⟨⟨l⟩⟩, .string ⟨⟨[47]⟩⟩]) σ = some (.tuple #[.string ⟨⟨l⟩⟩, .string ⟨⟨[]⟩⟩, .bool false], σ)]) (by kernel_rfl) h126
  | some i =>
    rw [hx] at h126
    exact oenter_sound (ask := ⟨[(1, 2, .tuple #[.string ⟨⟨l.take i⟩⟩, .string ⟨⟨l.drop (i + 1)⟩⟩, .bool true], bump σ)], []⟩) (m := [scall E 1000 (d + 4) (.fn 126 #[.string ⟨⟨l⟩⟩, .string ⟨⟨[47]⟩⟩]) σ = some (.tuple #[.string ⟨⟨l.take i⟩⟩, .string ⟨⟨l.drop (i + 1)⟩⟩, .bool true], bump σ)]) (by kernel_rfl) h126

/-! ## compose.ListStyle -/
def standard : List UInt8 := [115, 116, 97, 110, 100, 97, 114, 100]
noncomputable def listV (l : List UInt8) : Value := match beqBytes l [], okB l with
  | true, _ => .tuple #[.string ⟨⟨standard⟩⟩, .int .i64 0]
  | false, true => .tuple #[.string ⟨⟨l⟩⟩, .int .i64 0]
  | false, false => .tuple #[.string ⟨⟨[]⟩⟩, .int .i64 2]

theorem run31 {C : SCall} {σ : SW} {l : List UInt8} (hC : C (.fn 54 #[.string ⟨⟨l⟩⟩]) σ = some (.bool (okB l), σ)) : senter E C 1000 Tryz.f31 #[.string ⟨⟨l⟩⟩] σ = some (listV l, σ) := by
  unfold listV
  cases he : beqBytes l [] with
  | true => exact oenter_sound (ask := ⟨[(1, 1, .bool true, σ)], []⟩) (m := [some (Value.bool (beqBytes l []), σ) = some (.bool true, σ)]) (by kernel_rfl) (by show some (Value.bool (beqBytes l []), σ) = some (.bool true, σ); rw [he])
  | false =>
    cases ho : okB l with
    | true =>
      exact oenter_sound (ask := ⟨[(1, 1, .bool false, σ), (3, 1, .bool true, σ)], []⟩) (m := [some (Value.bool (beqBytes l []), σ) = some (.bool false, σ), C (.fn 54 #[.string ⟨⟨l⟩⟩]) σ = some (.bool true, σ)]) (by kernel_rfl) ⟨by rw [he], hC.trans (by rw [ho])⟩
    | false =>
      exact oenter_sound (ask := ⟨[(1, 1, .bool false, σ), (3, 1, .bool false, σ)], []⟩) (m := [some (Value.bool (beqBytes l []), σ) = some (.bool false, σ), C (.fn 54 #[.string ⟨⟨l⟩⟩]) σ = some (.bool false, σ)]) (by kernel_rfl) ⟨by rw [he], hC.trans (by rw [ho])⟩
theorem list31 (d : Nat) {σ : SW} {l : List UInt8} (hl : l.length < 900) : scall E 1000 (d + 7) (.fn 31 #[.string ⟨⟨l⟩⟩]) σ = some (listV l, σ) :=
  (enter_at (f := 31) (fn := Tryz.f31) (by kernel_rfl) (d + 6) _ σ).trans (run31 (name54 d hl))
end Go.Proofs.YtffdpbhkkflgnaaGreatDoor
