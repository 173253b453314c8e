/- Facts of the program, and of a run, for the statement that imports this text. Conditions: as each theorem names them. -/
import Derived.Test.YtffdpbhkkflgnaaGreatDoorStylesRun
import Derived.Test.YtffdpbhkkflgnaaGreatDoorWakes
namespace Go.Proofs.YtffdpbhkkflgnaaGreatDoor
open Go Go.Sh Go.RowKit
set_option maxRecDepth 100000

/-! ## The law, whole -/
noncomputable def CC (e3 e5 ep : TypeId) : SCall := over (scall E 1000 30) (objs e3 e5 ep 0) 11 (.bool true)

theorem cc_sim (e3 e5 ep : TypeId) : CSim E (CC e3 e5 ep) :=
  over_sim good (shadow_sim good 1000 30) (by simp only [objs, objs0, List.length_append, List.length_cons, List.length_nil, List.length_replicate, bits24]; omega) (fun _ => .bool true) (fun κ u h => by cases h; rfl) (wakes_ran e3 e5 ep)

theorem cc {e3 e5 ep : TypeId} {f : FuncId} {args : Array Value} {σ : SW} (h : f ≠ 11) : CC e3 e5 ep (.fn f args) σ = scall E 1000 30 (.fn f args) σ := over_miss h

theorem cutP_le {x : List UInt8} : (uB x (cutP x)).length ≤ x.length ∧ (rA x (cutP x)).length ≤ x.length := by
  unfold cutP
  cases cutIx x with
  | none => exact ⟨Nat.le_refl _, Nat.le_refl _⟩
  | some i =>
    simp only [Option.map_some, uB, rA]
    exact ⟨by rw [List.length_drop]; omega, by rw [List.length_take]; omega⟩

theorem lt_of_blt {a b : Nat} (h : Nat.blt a b = true) : a < b := by rw [Nat.blt_eq] at h; exact h

theorem min_ok (l : List UInt8) (σ : SW) : some (Value.int .i64 (bif iblt 200 (Int.ofNat l.length) then 200 else Int.ofNat l.length), σ) = some (.int .i64 (.ofNat (Nat.min l.length 200)), σ) := by
  have e : iblt 200 (Int.ofNat l.length) = Nat.blt 200 l.length := rfl
  rw [e]
  by_cases h : 200 < l.length
  · rw [blt_of h, show Nat.min l.length 200 = 200 from Nat.min_eq_right (Nat.le_of_lt h)]; rfl
  · rw [blt_not h, show Nat.min l.length 200 = l.length from Nat.min_eq_left (Nat.le_of_not_lt h)]; rfl

theorem listW_eq (x : List UInt8) : listV x = listW x (beqBytes x []) (okB x) := by
  unfold listV listW
  cases beqBytes x [] <;> cases okB x <;> rfl

theorem styles_run (e3 e5 ep : TypeId) (l : List UInt8) : ∃ σ', senter E (CC e3 e5 ep) 1000 Tryz.f7 #[strA l] (S0 e3 e5 ep) = some (.bool true, σ') ∧ stays σ' (objs e3 e5 ep 0) 0 = true := by
  obtain ⟨x, hx⟩ : ∃ x, x = (l.drop 0).take (Nat.min l.length 200 - 0) := ⟨_, rfl⟩
  have hlen : x.length ≤ 200 := by
    rw [hx, List.length_take]
    exact Nat.le_trans (Nat.min_le_left _ _) (Nat.min_le_right _ _)
  obtain ⟨hB, hA⟩ := cutP_le (x := x)
  have c22 : ∀ σ, CC e3 e5 ep (.fn 22 #[strA x]) σ = some (.bool (okB x), σ) := fun σ => (cc (by decide)).trans (name22 25 (by omega))
  have c31 : ∀ σ, CC e3 e5 ep (.fn 31 #[strA x]) σ = some (listV x, σ) := fun σ => (cc (by decide)).trans (list31 23 (by omega))
  have c65 : ∀ σ, scall E 1000 29 (.fn 65 #[strA x, strA [47]]) σ = some (cutW x (cutP x), cutS (cutP x) σ) := fun σ => cut65' 24 (by omega)
  have c22' : ∀ σ, scall E 1000 29 (.fn 22 #[strA (rA x (cutP x))]) σ = some (.bool (okB (rA x (cutP x))), σ) := fun σ => name22 24 (by omega)
  have c54' : ∀ σ, scall E 1000 29 (.fn 54 #[strA (rA x (cutP x))]) σ = some (.bool (okB (rA x (cutP x))), σ) := fun σ => name54 23 (by omega)
  have c39 : ∀ σ, σ.n < 10000 → scall E 1000 29 (.fn 39 #[aggU (uA (cutP x)) (uB x (cutP x))]) σ = some (.bool (rightB (uA (cutP x)) (uB x (cutP x))), σ.push (cellsU (uA (cutP x)) (uB x (cutP x)) 0)) := fun σ hn => right39 22 hn (by omega)
  have c15 : ∀ σ, σ.n < 10000 → scall E 1000 29 (.fn 15 #[aggU (uA (cutP x)) (uB x (cutP x))]) σ = some (.bool (rightB (uA (cutP x)) (uB x (cutP x))), σ.push (cellsU (uA (cutP x)) (uB x (cutP x)) 0)) := fun σ hn => right15 23 hn (by omega)
  generalize cutP x = c at c65 c22' c54' c39 c15
  generalize hu : rightB (uA c) (uB x c) = u at c39 c15
  generalize hn : okB (rA x c) = n at c22' c54'
  have n1 : (uS (S0 e3 e5 ep) x c).n < 10000 := lt_of_blt (by rcases c with _ | ⟨a, b⟩ <;> kernel_rfl)
  have n2 : (bump5 (uS (S1' (S0 e3 e5 ep) x c u) x c)).n < 10000 := lt_of_blt (by rcases c with _ | ⟨a, b⟩ <;> cases u <;> kernel_rfl)
  have c32 : CC e3 e5 ep (.fn 32 #[strA x]) (S0 e3 e5 ep) = some (V1 x c u, S1 (S0 e3 e5 ep) x c u) :=
    (cc (by decide)).trans ((enter_at (f := 32) (fn := Tryz.f32) (by kernel_rfl) 29 _ _).trans (run32 e3 e5 ep x c u (c65 _) (c39 _ n1)))
  have c33 : CC e3 e5 ep (.fn 33 #[strA x]) (S1' (S0 e3 e5 ep) x c u) = some (V2 x c u, S2 (S1' (S0 e3 e5 ep) x c u) x c) :=
    (cc (by decide)).trans ((enter_at (f := 33) (fn := Tryz.f33) (by kernel_rfl) 29 _ _).trans (run33 e3 e5 ep x c u _ rfl (c65 _) (c15 _ n2)))
  have c34 : CC e3 e5 ep (.fn 34 #[strA x]) (S2' (S1' (S0 e3 e5 ep) x c u) x c) = some (V3 x c (n && rW c), S3 (S2' (S1' (S0 e3 e5 ep) x c u) x c) x c (n && rW c)) :=
    (cc (by decide)).trans ((enter_at (f := 34) (fn := Tryz.f34) (by kernel_rfl) 29 _ _).trans (run34 e3 e5 ep x c u n _ rfl (c65 _) (c54' _)))
  have c35 : CC e3 e5 ep (.fn 35 #[strA x]) (S3' (S2' (S1' (S0 e3 e5 ep) x c u) x c) x c (n && rW c)) = some (V4 x c (rW c) n, S4 (S3' (S2' (S1' (S0 e3 e5 ep) x c u) x c) x c (n && rW c)) x c (rW c)) :=
    (cc (by decide)).trans ((enter_at (f := 35) (fn := Tryz.f35) (by kernel_rfl) 29 _ _).trans (run35 e3 e5 ep x c u n _ rfl (c65 _) (c22' _)))
  obtain ⟨w, hw⟩ : ∃ w, rW c = w := ⟨_, rfl⟩
  refine ⟨_, oenter_sound (law_ran (CC e3 e5 ep) e3 e5 ep l x (beqBytes x []) (okB x) c u n w hw) (all_join (all_join ⟨over_hit _ _ _ _, min_ok l _, ?_, ?_, rfl⟩ ?_) (all_join ⟨c32, c33⟩ (all_join ?_ (all_join ⟨c34, c35⟩ ?_)))), ?_⟩
  · rw [hx]
    exact sliceL_eq (Nat.zero_le _) (Nat.min_le_left _ _) _
  · rw [← listW_eq]; exact c31 _
  · have h := c22 (S0 e3 e5 ep)
    cases beqBytes x [] with
    | true => exact trivial
    | false =>
      generalize okB x = k at h ⊢
      cases k with
      | true => exact ⟨h, show some (Value.bool (!beqBytes x x), S0 e3 e5 ep) = some (.bool false, S0 e3 e5 ep) by rw [beqBytes_eq]; simp⟩
      | false => exact h
  · cases u with
    | true => show eqσ _ true (seq E 26 (.tmp 67) (.tmp 68) (aggU (uA c) (uB x c)) (aggU (uA c) (uB x c))) = _; rw [eqU]; rfl
    | false => exact trivial
  · cases hr : n && rW c with
    | true => show eqσ _ false (seq E 28 (.tmp 103) (.tmp 104) (aggR (rA x c) (rF c)) (aggR (rA x c) (rF c))) = _; rw [eqR]; rfl
    | false => exact trivial
  · rw [hw]
    rcases c with _ | ⟨a, b⟩
    · obtain rfl : true = w := hw
      clear c32 c33 c34 c35 c65 c22' c54' c39 c15 n1 n2 hu hn
      cases u <;> cases n <;> kernel_rfl
    · clear c32 c33 c34 c35 c65 c22' c54' c39 c15 n1 n2 hu hn hw
      cases u <;> cases n <;> cases w <;> kernel_rfl
end Go.Proofs.YtffdpbhkkflgnaaGreatDoor
