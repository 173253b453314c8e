/- Facts of the program, and of a run, for the statement that imports this text. Conditions: as each theorem names them. -/
import Derived.Test.YtffdpbhkkflgnaaGreatDoorBytes
namespace Go.Proofs.YtffdpbhkkflgnaaGreatDoor
open Go Go.Sh Go.RowKit
set_option maxRecDepth 100000

/-! ## What the runs ask -/
theorem blt_of {a b : Nat} (h : a < b) : Nat.blt a b = true := by rw [Nat.blt_eq]; exact h
theorem blt_not {a b : Nat} (h : ¬ a < b) : Nat.blt a b = false := by
  cases hb : Nat.blt a b with
  | false => rfl
  | true => rw [Nat.blt_eq] at hb; exact absurd hb h
theorem wrap_small {n : Nat} (h : n < half .i64) : (bif Nat.blt n (half .i64) then Int.ofNat n else IntKind.i64.wrap (.ofNat n)) = .ofNat n := by
  rw [show Nat.blt n (half .i64) = true from blt_of h]; rfl

noncomputable def atL (l : List UInt8) (i : Nat) : Option Value := match l[i]? with
  | some b => some (.int .u8 b.toNat)
  | none => none

noncomputable def withσ (σ : SW) (v : Option Value) : Option (Value × SW) := match v with
  | some v => some (v, σ)
  | none => none

theorem atL_eq {l : List UInt8} {i : Nat} {c : UInt8} (h : l[i]? = some c) (σ : SW) : withσ σ (atL l i) = some (.int .u8 (.ofNat c.toNat), σ) := by
  unfold atL
  rw [h]
  rfl

noncomputable def byteV : Value := .func (.func 176) #[] #[]
noncomputable def allI (l : List UInt8) (i : Nat) : List (Nat × Value) := [(0, .string ⟨⟨l⟩⟩), (1, byteV), (4, .bool false), (7, .int .i64 (.ofNat l.length)), (8, .int .i64 (.ofNat i))]

theorem all_step {C : SCall} {σ : SW} {l : List UInt8} {i : Nat} {c : UInt8} (hi : l[i]? = some c) (hl : l.length < 10000) (hC : C (.fn 176 #[.int .u8 (.ofNat c.toNat)]) σ = some (.bool true, σ)) :
    ∀ a0, Has a0 ⟨ofList (allI l i), 20, []⟩ → ∃ b0, scode E C 1000 none (theLoop Tryz.f132 2) none a0 σ = some (.normal, b0, σ) ∧ Has b0 ⟨ofList (allI l (i + 1)), 20, []⟩ := by
  have hlt : i < l.length := (List.getElem?_eq_some_iff.1 hi).1
  refine obody_sound (ask := ⟨[(2, 0, .bool true, σ), (4, 3, .int .u8 (.ofNat c.toNat), σ), (4, 4, .bool true, σ)], []⟩)
    (m := [20 = 20, ([] : List Nat) = [], some (Value.string ⟨⟨l⟩⟩) = some (.string ⟨⟨l⟩⟩), some byteV = some byteV, some (Value.bool false) = some (.bool false), some (Value.int .i64 (.ofNat l.length)) = some (.int .i64 (.ofNat l.length)),
      some (Value.int .i64 (bif Nat.blt (i + 1) (half .i64) then Int.ofNat (i + 1) else IntKind.i64.wrap (.ofNat (i + 1)))) = some (.int .i64 (.ofNat (i + 1))),
      some (Value.bool (Nat.blt i l.length), σ) = some (.bool true, σ), withσ σ (atL l i) = some (.int .u8 (.ofNat c.toNat), σ), C (.fn 176 #[.int .u8 (.ofNat c.toNat)]) σ = some (.bool true, σ)]) (by kernel_rfl) ?_
  refine ⟨rfl, rfl, rfl, rfl, rfl, rfl, ?_, ?_, atL_eq hi σ, hC⟩
  · rw [wrap_small (by simp only [half]; omega)]
  · rw [blt_of hlt]

theorem all_bad {C : SCall} {σ : SW} {l : List UInt8} {i : Nat} {c : UInt8} (hi : l[i]? = some c) (hC : C (.fn 176 #[.int .u8 (.ofNat c.toNat)]) σ = some (.bool false, σ)) :
    ∀ a0, Has a0 ⟨ofList (allI l i), 20, []⟩ → ∃ b0, scode E C 1000 none (theLoop Tryz.f132 2) none a0 σ = some (.ret, b0, σ) ∧ Has b0 ⟨ofList [(4, .bool false)], 20, []⟩ := by
  have hlt : i < l.length := (List.getElem?_eq_some_iff.1 hi).1
  refine obody_sound (ask := ⟨[(2, 0, .bool true, σ), (4, 3, .int .u8 (.ofNat c.toNat), σ), (4, 4, .bool false, σ)], []⟩)
    (m := [20 = 20, ([] : List Nat) = [], some (Value.bool false) = some (.bool false),
      some (Value.bool (Nat.blt i l.length), σ) = some (.bool true, σ), withσ σ (atL l i) = some (.int .u8 (.ofNat c.toNat), σ), C (.fn 176 #[.int .u8 (.ofNat c.toNat)]) σ = some (.bool false, σ)]) (by kernel_rfl) ?_
  refine ⟨rfl, rfl, rfl, ?_, atL_eq hi σ, hC⟩
  rw [blt_of hlt]

theorem all_end {C : SCall} {σ : SW} {l : List UInt8} :
    ∀ a0, Has a0 ⟨ofList (allI l l.length), 20, []⟩ → ∃ b0, scode E C 1000 none (theLoop Tryz.f132 2) none a0 σ = some (.exit 0, b0, σ) ∧ Has b0 ⟨ofList [(0, .string ⟨⟨l⟩⟩)], 20, []⟩ := by
  refine obody_sound (ask := ⟨[(2, 0, .bool false, σ)], []⟩)
    (m := [20 = 20, ([] : List Nat) = [], some (Value.string ⟨⟨l⟩⟩) = some (.string ⟨⟨l⟩⟩), some (Value.bool (Nat.blt l.length l.length), σ) = some (.bool false, σ)]) (by kernel_rfl) ?_
  refine ⟨rfl, rfl, rfl, ?_⟩
  show some (Value.bool (Nat.blt l.length l.length), σ) = some (.bool false, σ)
  rw [blt_not (Nat.lt_irrefl _)]

noncomputable def allB (l : List UInt8) : Bool := l.all fun c => byteB c.toNat

/-- The first that is not so. -/
theorem first_bad {q : UInt8 → Bool} : ∀ {l : List UInt8}, l.all q = false → ∃ (i : Nat) (c : UInt8), l[i]? = some c ∧ q c = false ∧ ∀ j, j < i → ∃ d, l[j]? = some d ∧ q d = true := by
  intro l
  induction l with
  | nil => intro h; simp at h
  | cons a l ih =>
    intro h
    cases ha : q a with
    | false => exact ⟨0, a, rfl, ha, fun j hj => absurd hj (Nat.not_lt_zero _)⟩
    | true =>
      simp only [List.all_cons, ha, Bool.true_and] at h
      obtain ⟨i, c, h1, h2, h3⟩ := ih h
      refine ⟨i + 1, c, by simpa using h1, h2, fun j hj => ?_⟩
      cases j with
      | zero => exact ⟨a, rfl, ha⟩
      | succ j =>
        obtain ⟨d, h4, h5⟩ := h3 j (by omega)
        exact ⟨d, by simpa using h4, h5⟩

theorem all_run {C : SCall} {σ : SW} (hC : ∀ n, n < 256 → C (.fn 176 #[.int .u8 (.ofNat n)]) σ = some (.bool (byteB n), σ)) {l : List UInt8} (hl : l.length < 900) :
    senter E C 1000 Tryz.f132 #[.string ⟨⟨l⟩⟩, byteV] σ = some (.bool (allB l && !beqBytes l []), σ) := by
  have hstep : ∀ i c, l[i]? = some c → byteB c.toNat = true → ∀ a0, Has a0 ⟨ofList (allI l i), 20, []⟩ → ∃ b0, scode E C 1000 none (theLoop Tryz.f132 2) none a0 σ = some (.normal, b0, σ) ∧ Has b0 ⟨ofList (allI l (i + 1)), 20, []⟩ := fun i c h1 h2 =>
    all_step h1 (by omega) (by rw [hC _ c.toNat_lt, h2])
  cases hall : allB l with
  | true =>
    refine oenter_sound (ask := ⟨[], [(2, ⟨allI l 0, .exit 0, [(0, .string ⟨⟨l⟩⟩)], σ⟩)]⟩)
      (m := [some (Value.string ⟨⟨l⟩⟩) = some (.string ⟨⟨l⟩⟩), some byteV = some byteV, some (Value.bool false) = some (.bool false), some (Value.int .i64 (.ofNat l.length)) = some (.int .i64 (.ofNat l.length)),
        some (Value.int .i64 (.ofNat 0)) = some (.int .i64 (.ofNat 0)), LoopGoes E C 1000 none (theLoop Tryz.f132 2) ⟨allI l 0, .exit 0, [(0, .string ⟨⟨l⟩⟩)], σ⟩ 20 [] σ]) (by kernel_rfl) ?_
    refine ⟨rfl, rfl, rfl, rfl, rfl, loop_goes (allI l) (fun _ => σ) l.length (fun i hi => ?_) all_end (by simp) (by omega)⟩
    have h1 := List.getElem?_eq_getElem hi
    exact hstep i _ h1 (List.all_eq_true.1 hall _ (List.getElem_mem hi))
  | false =>
    obtain ⟨i, c, h1, h2, h3⟩ := first_bad hall
    have hlt : i < l.length := (List.getElem?_eq_some_iff.1 h1).1
    refine oenter_sound (ask := ⟨[], [(2, ⟨allI l 0, .ret, [(4, .bool false)], σ⟩)]⟩)
      (m := [some (Value.string ⟨⟨l⟩⟩) = some (.string ⟨⟨l⟩⟩), some byteV = some byteV, some (Value.bool false) = some (.bool false), some (Value.int .i64 (.ofNat l.length)) = some (.int .i64 (.ofNat l.length)),
        some (Value.int .i64 (.ofNat 0)) = some (.int .i64 (.ofNat 0)), LoopGoes E C 1000 none (theLoop Tryz.f132 2) ⟨allI l 0, .ret, [(4, .bool false)], σ⟩ 20 [] σ]) (by kernel_rfl) ?_
    refine ⟨rfl, rfl, rfl, rfl, rfl, loop_goes (allI l) (fun _ => σ) i (fun j hj => ?_) (all_bad h1 (by rw [hC _ c.toNat_lt, h2])) (by simp) (by omega)⟩
    obtain ⟨d, h4, h5⟩ := h3 j hj
    exact hstep j d h4 h5

theorem enter_at {f : FuncId} {fn : Func} (h : sguarded (Nat.blt f E.nf) (E.P.funcs[f]?) = some fn) (d : Nat) (args : Array Value) (σ : SW) : scall E 1000 (d + 1) (.fn f args) σ = senter E (scall E 1000 d) 1000 fn args σ := scall_enter h args σ

noncomputable def nameB : List UInt8 → Bool
  | [] => false
  | c :: r => allB (c :: r) && startB c.toNat

/-- utf.Name -/
theorem name106 (d : Nat) {σ : SW} {l : List UInt8} (hl : l.length < 900) : scall E 1000 (d + 5) (.fn 106 #[.string ⟨⟨l⟩⟩]) σ = some (.bool (nameB l), σ) := by
  have h132 : scall E 1000 (d + 4) (.fn 132 #[.string ⟨⟨l⟩⟩, byteV]) σ = some (.bool (allB l && !beqBytes l []), σ) :=
    (enter_at (f := 132) (fn := Tryz.f132) (by kernel_rfl) (d + 3) _ σ).trans (all_run (fun n hn => at_byte (nameByte_all d σ) hn) hl)
  rw [enter_at (f := 106) (fn := Tryz.f106) (by kernel_rfl) (d + 4)]
  cases l with
  | nil =>
    refine (oenter_sound (ask := ⟨[(1, 1, .bool false, σ)], []⟩) (m := [scall E 1000 (d + 4) (.fn 132 #[.string ⟨⟨[]⟩⟩, byteV]) σ = some (.bool false, σ)]) (r := (.bool false, σ)) (by kernel_rfl) ?_).trans rfl
    show scall E 1000 (d + 4) (.fn 132 #[.string ⟨⟨[]⟩⟩, byteV]) σ = some (.bool false, σ)
    rw [h132]; rfl
  | cons c l =>
    cases ha : allB (c :: l) with
    | false =>
      refine (oenter_sound (ask := ⟨[(1, 1, .bool false, σ)], []⟩) (m := [scall E 1000 (d + 4) (.fn 132 #[.string ⟨⟨c :: l⟩⟩, byteV]) σ = some (.bool false, σ)]) (r := (.bool false, σ)) (by kernel_rfl) ?_).trans ?_
      · show scall E 1000 (d + 4) (.fn 132 #[.string ⟨⟨c :: l⟩⟩, byteV]) σ = some (.bool false, σ)
        rw [h132, ha]; rfl
      · simp [nameB, ha]
    | true =>
      refine (oenter_sound (ask := ⟨[(1, 1, .bool true, σ), (1, 5, .bool (startB c.toNat), σ)], []⟩) (m := [scall E 1000 (d + 4) (.fn 132 #[.string ⟨⟨c :: l⟩⟩, byteV]) σ = some (.bool true, σ), scall E 1000 (d + 4) (.fn 177 #[.int .u8 (.ofNat c.toNat)]) σ = some (.bool (startB c.toNat), σ)]) (r := (.bool (startB c.toNat), σ)) (by kernel_rfl) ?_).trans ?_
      · exact ⟨by rw [h132, ha]; rfl, at_byte (nameStart_all (d + 2) σ) c.toNat_lt⟩
      · simp [nameB, ha]

/-- compose.isName -/
noncomputable def okB (l : List UInt8) : Bool := nameB l && !Nat.blt 64 l.length
theorem name54 (d : Nat) {σ : SW} {l : List UInt8} (hl : l.length < 900) : scall E 1000 (d + 6) (.fn 54 #[.string ⟨⟨l⟩⟩]) σ = some (.bool (okB l), σ) := by
  rw [enter_at (f := 54) (fn := Tryz.f54) (by kernel_rfl) (d + 5)]
  have h := name106 d (σ := σ) hl
  cases ha : nameB l with
  | false =>
    refine (oenter_sound (ask := ⟨[(1, 1, .bool false, σ)], []⟩) (m := [scall E 1000 (d + 5) (.fn 106 #[.string ⟨⟨l⟩⟩]) σ = some (.bool false, σ)]) (r := (.bool false, σ)) (by kernel_rfl) ?_).trans ?_
    · show scall E 1000 (d + 5) (.fn 106 #[.string ⟨⟨l⟩⟩]) σ = some (.bool false, σ)
      rw [h, ha]
    · simp [okB, ha]
  | true =>
    refine (oenter_sound (ask := ⟨[(1, 1, .bool true, σ)], []⟩) (m := [scall E 1000 (d + 5) (.fn 106 #[.string ⟨⟨l⟩⟩]) σ = some (.bool true, σ)]) (r := (.bool (!Nat.blt 64 l.length), σ)) (by kernel_rfl) ?_).trans ?_
    · show scall E 1000 (d + 5) (.fn 106 #[.string ⟨⟨l⟩⟩]) σ = some (.bool true, σ)
      rw [h, ha]
    · simp [okB, ha]

/-! ## The reference's names -/
noncomputable def refI (l : List UInt8) (i : Nat) : List (Nat × Value) := [(0, .string ⟨⟨l⟩⟩), (3, .int .i64 (.ofNat i))]

theorem ref_step0 {C : SCall} {σ : SW} {l : List UInt8} {c : UInt8} (hi : l[0]? = some c) (h1 : C (.fn 112 #[.int .u8 (.ofNat c.toNat)]) σ = some (.bool true, σ)) (h2 : C (.fn 113 #[.int .u8 (.ofNat c.toNat)]) σ = some (.bool true, σ)) :
    ∀ a0, Has a0 ⟨ofList (refI l 0), 28, []⟩ → ∃ b0, scode E C 1000 none (theLoop Tryz.f60 2) none a0 σ = some (.normal, b0, σ) ∧ Has b0 ⟨ofList (refI l (0 + 1)), 28, []⟩ := by
  have hlt : 0 < l.length := (List.getElem?_eq_some_iff.1 hi).1
  refine obody_sound (ask := ⟨[(2, 3, .bool true, σ), (4, 5, .int .u8 (.ofNat c.toNat), σ), (4, 6, .bool true, σ), (4, 12, .int .u8 (.ofNat c.toNat), σ), (4, 13, .bool true, σ)], []⟩)
    (m := [28 = 28, ([] : List Nat) = [], some (Value.string ⟨⟨l⟩⟩) = some (.string ⟨⟨l⟩⟩), some (Value.int .i64 (.ofNat 1)) = some (.int .i64 (.ofNat 1)),
      some (Value.bool (Nat.blt 0 l.length), σ) = some (.bool true, σ), withσ σ (atL l 0) = some (.int .u8 (.ofNat c.toNat), σ), C (.fn 112 #[.int .u8 (.ofNat c.toNat)]) σ = some (.bool true, σ), withσ σ (atL l 0) = some (.int .u8 (.ofNat c.toNat), σ), C (.fn 113 #[.int .u8 (.ofNat c.toNat)]) σ = some (.bool true, σ)]) (by kernel_rfl) ?_
  refine ⟨rfl, rfl, rfl, rfl, ?_, atL_eq hi σ, h1, atL_eq hi σ, h2⟩
  rw [blt_of hlt]

theorem ref_bad0 {C : SCall} {σ : SW} {l : List UInt8} {c : UInt8} (hi : l[0]? = some c) (h1 : C (.fn 112 #[.int .u8 (.ofNat c.toNat)]) σ = some (.bool false, σ)) :
    ∀ a0, Has a0 ⟨ofList (refI l 0), 28, []⟩ → ∃ b0, scode E C 1000 none (theLoop Tryz.f60 2) none a0 σ = some (.ret, b0, σ) ∧ Has b0 ⟨ofList [(2, .bool false)], 28, []⟩ := by
  have hlt : 0 < l.length := (List.getElem?_eq_some_iff.1 hi).1
  refine obody_sound (ask := ⟨[(2, 3, .bool true, σ), (4, 5, .int .u8 (.ofNat c.toNat), σ), (4, 6, .bool false, σ)], []⟩)
    (m := [28 = 28, ([] : List Nat) = [], some (Value.bool false) = some (.bool false),
      some (Value.bool (Nat.blt 0 l.length), σ) = some (.bool true, σ), withσ σ (atL l 0) = some (.int .u8 (.ofNat c.toNat), σ), C (.fn 112 #[.int .u8 (.ofNat c.toNat)]) σ = some (.bool false, σ)]) (by kernel_rfl) ?_
  refine ⟨rfl, rfl, rfl, ?_, atL_eq hi σ, h1⟩
  rw [blt_of hlt]

theorem ref_step {C : SCall} {σ : SW} {l : List UInt8} {i : Nat} {c : UInt8} (hl : l.length < 10000) (hi : l[i + 1]? = some c) (h2 : C (.fn 113 #[.int .u8 (.ofNat c.toNat)]) σ = some (.bool true, σ)) :
    ∀ a0, Has a0 ⟨ofList (refI l (i + 1)), 28, []⟩ → ∃ b0, scode E C 1000 none (theLoop Tryz.f60 2) none a0 σ = some (.normal, b0, σ) ∧ Has b0 ⟨ofList (refI l (i + 1 + 1)), 28, []⟩ := by
  have hlt : i + 1 < l.length := (List.getElem?_eq_some_iff.1 hi).1
  refine obody_sound (ask := ⟨[(2, 3, .bool true, σ), (4, 12, .int .u8 (.ofNat c.toNat), σ), (4, 13, .bool true, σ)], []⟩)
    (m := [28 = 28, ([] : List Nat) = [], some (Value.string ⟨⟨l⟩⟩) = some (.string ⟨⟨l⟩⟩), some (Value.int .i64 (bif Nat.blt (i + 1 + 1) (half .i64) then Int.ofNat (i + 1 + 1) else IntKind.i64.wrap (.ofNat (i + 1 + 1)))) = some (.int .i64 (.ofNat (i + 1 + 1))),
      some (Value.bool (Nat.blt (i + 1) l.length), σ) = some (.bool true, σ), withσ σ (atL l (i + 1)) = some (.int .u8 (.ofNat c.toNat), σ), C (.fn 113 #[.int .u8 (.ofNat c.toNat)]) σ = some (.bool true, σ)]) (by kernel_rfl) ?_
  refine ⟨rfl, rfl, rfl, ?_, ?_, atL_eq hi σ, h2⟩
  · rw [wrap_small (by simp only [half]; omega)]
  · rw [blt_of hlt]

theorem ref_bad {C : SCall} {σ : SW} {l : List UInt8} {i : Nat} {c : UInt8} (hi : l[i + 1]? = some c) (h2 : C (.fn 113 #[.int .u8 (.ofNat c.toNat)]) σ = some (.bool false, σ)) :
    ∀ a0, Has a0 ⟨ofList (refI l (i + 1)), 28, []⟩ → ∃ b0, scode E C 1000 none (theLoop Tryz.f60 2) none a0 σ = some (.ret, b0, σ) ∧ Has b0 ⟨ofList [(2, .bool false)], 28, []⟩ := by
  have hlt : i + 1 < l.length := (List.getElem?_eq_some_iff.1 hi).1
  refine obody_sound (ask := ⟨[(2, 3, .bool true, σ), (4, 12, .int .u8 (.ofNat c.toNat), σ), (4, 13, .bool false, σ)], []⟩)
    (m := [28 = 28, ([] : List Nat) = [], some (Value.bool false) = some (.bool false),
      some (Value.bool (Nat.blt (i + 1) l.length), σ) = some (.bool true, σ), withσ σ (atL l (i + 1)) = some (.int .u8 (.ofNat c.toNat), σ), C (.fn 113 #[.int .u8 (.ofNat c.toNat)]) σ = some (.bool false, σ)]) (by kernel_rfl) ?_
  refine ⟨rfl, rfl, rfl, ?_, atL_eq hi σ, h2⟩
  rw [blt_of hlt]

theorem ref_end {C : SCall} {σ : SW} {l : List UInt8} :
    ∀ a0, Has a0 ⟨ofList (refI l l.length), 28, []⟩ → ∃ b0, scode E C 1000 none (theLoop Tryz.f60 2) none a0 σ = some (.exit 0, b0, σ) ∧ Has b0 ⟨ofList [(0, .string ⟨⟨l⟩⟩)], 28, []⟩ := by
  refine obody_sound (ask := ⟨[(2, 3, .bool false, σ)], []⟩)
    (m := [28 = 28, ([] : List Nat) = [], some (Value.string ⟨⟨l⟩⟩) = some (.string ⟨⟨l⟩⟩), some (Value.bool (Nat.blt l.length l.length), σ) = some (.bool false, σ)]) (by kernel_rfl) ?_
  refine ⟨rfl, rfl, rfl, ?_⟩
  show some (Value.bool (Nat.blt l.length l.length), σ) = some (.bool false, σ)
  rw [blt_not (Nat.lt_irrefl _)]

theorem ref_enter {C : SCall} {σ : SW} {l : List UInt8} {L : LAsk} {b : Bool} (hL : L = ⟨refI l 0, .exit 0, [(0, .string ⟨⟨l⟩⟩)], σ⟩ ∧ b = !beqBytes l [] ∨ L = ⟨refI l 0, .ret, [(2, .bool false)], σ⟩ ∧ b = false) (h : LoopGoes E C 1000 none (theLoop Tryz.f60 2) L 28 [] σ) :
    senter E C 1000 Tryz.f60 #[.string ⟨⟨l⟩⟩] σ = some (.bool b, σ) := by
  rcases hL with ⟨rfl, rfl⟩ | ⟨rfl, rfl⟩
  · exact oenter_sound (ask := ⟨[], [(2, ⟨refI l 0, .exit 0, [(0, .string ⟨⟨l⟩⟩)], σ⟩)]⟩)
      (m := [some (Value.string ⟨⟨l⟩⟩) = some (.string ⟨⟨l⟩⟩), some (Value.int .i64 (.ofNat 0)) = some (.int .i64 (.ofNat 0)), LoopGoes E C 1000 none (theLoop Tryz.f60 2) ⟨refI l 0, .exit 0, [(0, .string ⟨⟨l⟩⟩)], σ⟩ 28 [] σ]) (by kernel_rfl) ⟨rfl, rfl, h⟩
  · exact oenter_sound (ask := ⟨[], [(2, ⟨refI l 0, .ret, [(2, .bool false)], σ⟩)]⟩)
      (m := [some (Value.string ⟨⟨l⟩⟩) = some (.string ⟨⟨l⟩⟩), some (Value.int .i64 (.ofNat 0)) = some (.int .i64 (.ofNat 0)), LoopGoes E C 1000 none (theLoop Tryz.f60 2) ⟨refI l 0, .ret, [(2, .bool false)], σ⟩ 28 [] σ]) (by kernel_rfl) ⟨rfl, rfl, h⟩

theorem start_byte {n : Nat} (h : startB n = true) : byteB n = true := by simp [byteB, h]

theorem ref_run {C : SCall} {σ : SW} (h112 : ∀ n, n < 256 → C (.fn 112 #[.int .u8 (.ofNat n)]) σ = some (.bool (startB n), σ)) (h113 : ∀ n, n < 256 → C (.fn 113 #[.int .u8 (.ofNat n)]) σ = some (.bool (byteB n), σ)) {l : List UInt8} (hl : l.length < 900) :
    senter E C 1000 Tryz.f60 #[.string ⟨⟨l⟩⟩] σ = some (.bool (nameB l), σ) := by
  cases l with
  | nil => exact ref_enter (.inl ⟨rfl, rfl⟩) (loop_goes (refI []) (fun _ => σ) 0 (fun i hi => absurd hi (Nat.not_lt_zero _)) ref_end (by simp) (by omega))
  | cons c l =>
    have hstep : startB c.toNat = true → ∀ i d, (c :: l)[i]? = some d → byteB d.toNat = true → ∀ a0, Has a0 ⟨ofList (refI (c :: l) i), 28, []⟩ → ∃ b0, scode E C 1000 none (theLoop Tryz.f60 2) none a0 σ = some (.normal, b0, σ) ∧ Has b0 ⟨ofList (refI (c :: l) (i + 1)), 28, []⟩ := by
      intro hs i d h1 h2
      cases i with
      | zero =>
        obtain rfl : c = d := by simpa using h1
        exact ref_step0 h1 (by rw [h112 _ c.toNat_lt, hs]) (by rw [h113 _ c.toNat_lt, h2])
      | succ i => exact ref_step (by omega) h1 (by rw [h113 _ d.toNat_lt, h2])
    cases hs : startB c.toNat with
    | false =>
      have e : nameB (c :: l) = false := by simp [nameB, hs]
      rw [e]
      exact ref_enter (.inr ⟨rfl, rfl⟩) (loop_goes (refI (c :: l)) (fun _ => σ) 0 (fun i hi => absurd hi (Nat.not_lt_zero _)) (ref_bad0 (c := c) rfl (by rw [h112 _ c.toNat_lt, hs])) (by simp) (by omega))
    | true =>
      cases hall : allB (c :: l) with
      | true =>
        have e : nameB (c :: l) = true := by simp [nameB, hs, hall]
        rw [e]
        exact ref_enter (.inl ⟨rfl, rfl⟩) (loop_goes (refI (c :: l)) (fun _ => σ) (c :: l).length (fun i hi => hstep hs i _ (List.getElem?_eq_getElem hi) (List.all_eq_true.1 hall _ (List.getElem_mem hi))) ref_end (by simp) (by omega))
      | false =>
        have e : nameB (c :: l) = false := by simp [nameB, hall]
        rw [e]
        obtain ⟨i, d, h1, h2, h3⟩ := first_bad hall
        cases i with
        | zero =>
          obtain rfl : c = d := by simpa using h1
          rw [start_byte hs] at h2
          cases h2
        | succ i =>
          have hlt := (List.getElem?_eq_some_iff.1 h1).1
          refine ref_enter (.inr ⟨rfl, rfl⟩) (loop_goes (refI (c :: l)) (fun _ => σ) (i + 1) (fun j hj => ?_) (ref_bad h1 (by rw [h113 _ d.toNat_lt, h2])) (by simp) (by omega))
          obtain ⟨x, h4, h5⟩ := h3 j hj
          exact hstep hs j x h4 h5

/-- ref02.Name and ref28.Name -/
theorem name60 (d : Nat) {σ : SW} {l : List UInt8} (hl : l.length < 900) : scall E 1000 (d + 4) (.fn 60 #[.string ⟨⟨l⟩⟩]) σ = some (.bool (nameB l), σ) :=
  (enter_at (f := 60) (fn := Tryz.f60) (by kernel_rfl) (d + 3) _ σ).trans (ref_run (fun n hn => at_byte (refStart_all (d + 1) σ) hn) (fun n hn => at_byte (refByte_all d σ) hn) hl)

theorem name22 (d : Nat) {σ : SW} {l : List UInt8} (hl : l.length < 900) : scall E 1000 (d + 5) (.fn 22 #[.string ⟨⟨l⟩⟩]) σ = some (.bool (okB l), σ) := by
  rw [enter_at (f := 22) (fn := Tryz.f22) (by kernel_rfl) (d + 4)]
  have h := name60 d (σ := σ) hl
  cases ha : nameB l with
  | false =>
    refine (oenter_sound (ask := ⟨[(1, 1, .bool false, σ)], []⟩) (m := [scall E 1000 (d + 4) (.fn 60 #[.string ⟨⟨l⟩⟩]) σ = some (.bool false, σ)]) (r := (.bool false, σ)) (by kernel_rfl) ?_).trans ?_
    · show scall E 1000 (d + 4) (.fn 60 #[.string ⟨⟨l⟩⟩]) σ = some (.bool false, σ)
      rw [h, ha]
    · simp [okB, ha]
  | true =>
    refine (oenter_sound (ask := ⟨[(1, 1, .bool true, σ)], []⟩) (m := [scall E 1000 (d + 4) (.fn 60 #[.string ⟨⟨l⟩⟩]) σ = some (.bool true, σ)]) (r := (.bool (!Nat.blt 64 l.length), σ)) (by kernel_rfl) ?_).trans ?_
    · show scall E 1000 (d + 4) (.fn 60 #[.string ⟨⟨l⟩⟩]) σ = some (.bool true, σ)
      rw [h, ha]
    · simp [okB, ha]
end Go.Proofs.YtffdpbhkkflgnaaGreatDoor
