/- Facts of the program, and of a run, for the statement that imports this text. Conditions: as each theorem names them. -/
import Derived.Test.YtffdpbhkkflgnaaGreatDoorNoneRun
import Derived.Test.YtffdpbhkkflgnaaGreatDoorTie
import Derived.Test.YtffdpbhkkflgnaaGreatDoorCards
import Derived.ProofKit
import Derived.OpenShut
import Derived.LaidMore
import Derived.Lay
import Derived.Carry
import Derived.SevenTiedAt
import Derived.Stop.Joined
namespace Go.Proofs.YtffdpbhkkflgnaaGreatDoor
open Go.ChangeShapes Go.WideShapes Go.ChangeAt Go.RowKit
open Go.ChangeMaps (open_string)
set_option maxRecDepth 100000

theorem own : ownKnob Tryz.prog.godebug = none := by kernel_rfl
theorem laidOut : laidOutB Tryz.prog = true := by kernel_rfl

theorem row_cell {P : Program} {w : World} {r : Reach} {b : Nat} {t : TypeId} {cs : Array Value} {ts : List TypeId} (h : Row.okWide P w r b t cs) (hts : P.cellTypes P.depth t = some ts) {i : Nat} {v : Value} (hv : cs[i]? = some v) {u : TypeId} (hu : ts[i % ts.length]? = some u) : Cell.okWide P w r b u v := by
  obtain ⟨ts', h1, _, h2⟩ := h
  rw [hts] at h1
  cases h1
  obtain ⟨u', h3, h4⟩ := h2 i v hv
  rw [hu] at h3
  cases h3
  exact h4

theorem cell_string {P : Program} {w : World} {r : Reach} {b : Nat} {t : TypeId} {v : Value} (ht : P.underlying t = some .string) (h : Cell.okWide P w r b t v) : ∃ s, v = .string s := by
  unfold Cell.okWide at h
  rw [ht] at h
  cases v <;> simp only [Cell.ok, ht] at h <;> first | exact ⟨_, rfl⟩ | exact h.elim
theorem cell_bool {P : Program} {w : World} {r : Reach} {b : Nat} {t : TypeId} {v : Value} (ht : P.underlying t = some .bool) (h : Cell.okWide P w r b t v) : ∃ s, v = .bool s := by
  unfold Cell.okWide at h
  rw [ht] at h
  cases v <;> simp only [Cell.ok, ht] at h <;> first | exact ⟨_, rfl⟩ | exact h.elim
theorem cell_int {P : Program} {w : World} {r : Reach} {b : Nat} {t : TypeId} {k : IntKind} {v : Value} (ht : P.underlying t = some (.int k)) (h : Cell.okWide P w r b t v) : ∃ n, v = .int k n := by
  unfold Cell.okWide at h
  rw [ht] at h
  cases v <;> simp only [Cell.ok, ht] at h <;> first | exact h.elim | skip
  obtain ⟨rfl, _⟩ := h
  exact ⟨_, rfl⟩
theorem cell_slice {P : Program} {w : World} {r : Reach} {b : Nat} {t e : TypeId} {v : Value} (ht : P.underlying t = some (.slice e)) (h : Cell.okWide P w r b t v) :
    v = .slice none 0 0 ∨ ∃ ab ao len cap, v = .slice (some ⟨ab, ao, none⟩) len cap ∧ len ≤ cap ∧ ab < w.heap.size := by
  have h' : Cell.ok P w r b t v := by
    unfold Cell.okWide at h
    rw [ht] at h
    cases v <;> exact h
  clear h
  unfold Cell.ok at h'
  rw [ht] at h'
  cases v with
  | slice a len cap =>
    cases a with
    | none =>
      cases len with
      | zero =>
        cases cap with
        | zero => exact .inl rfl
        | succ _ => exact h'.elim
      | succ _ => exact h'.elim
    | some a =>
      obtain ⟨h1, _, _, h4, row, cells, h5, _⟩ := h'
      obtain ⟨ab, ao, sp⟩ := a
      simp only at h4 h5
      subst h4
      refine .inr ⟨ab, ao, len, cap, rfl, h1, ?_⟩
      unfold World.shape? at h5
      cases hh : w.heap[ab]? with
      | none => rw [hh] at h5; simp at h5
      | some o => exact (Array.getElem?_eq_some_iff.1 hh).1
  | _ => exact h'.elim
theorem value_agg {P : Program} {w : World} {r : Reach} {b : Nat} {t : TypeId} {v : Value} {fs : Array Field} (ht : P.underlying t = some (.struct fs)) (h : Value.okWide P w r b t v) : ∃ cs, v = .agg cs ∧ cs.size = P.cellsOf t ∧ Row.okWide P w r b t cs := by
  unfold Value.okWide at h
  rw [ht] at h
  exact h


theorem t9 : Tryz.prog.underlying 9 = some .string := by kernel_rfl
theorem t4 : Tryz.prog.underlying 4 = some .bool := by kernel_rfl
theorem t3 : Tryz.prog.underlying 3 = some (.int .i64) := by kernel_rfl
theorem t49 : Tryz.prog.underlying 49 = some (.slice 9) := by kernel_rfl
theorem c30 : Tryz.prog.cellTypes Tryz.prog.depth 30 = some [4, 9, 3, 9, 9, 9, 4] := by kernel_rfl
theorem c51 : Tryz.prog.cellTypes Tryz.prog.depth 51 = some [49, 9] := by kernel_rfl
theorem n30 : Tryz.prog.cellsOf 30 = 7 := by kernel_rfl
theorem n51 : Tryz.prog.cellsOf 51 = 2 := by kernel_rfl
theorem params8 : Tryz.f8.params = #[9, 30, 51] := by kernel_rfl

theorem struct_of {P : Program} {t : TypeId} (h : (match P.underlying t with | some (.struct _) => true | _ => false) = true) : ∃ fs, P.underlying t = some (.struct fs) := by
  split at h
  · exact ⟨_, by assumption⟩
  · cases h

theorem measured {w : World} {r : Reach} {b : Nat} {v : Value} (h : Value.okWide Tryz.prog w r b 30 v) :
    ∃ (b0 : Bool) (s1 : ByteArray) (n2 : Int) (s3 s4 s5 : ByteArray) (b6 : Bool), v = .agg #[.bool b0, .string s1, .int .i64 n2, .string s3, .string s4, .string s5, .bool b6] := by
  obtain ⟨fs, hu⟩ := struct_of (P := Tryz.prog) (t := 30) (by kernel_rfl)
  obtain ⟨cs, rfl, hs, hr⟩ := value_agg hu h
  rw [n30] at hs
  obtain ⟨l⟩ := cs
  match l, hs with
  | [x0, x1, x2, x3, x4, x5, x6], _ =>
    obtain ⟨b0, rfl⟩ := cell_bool t4 (row_cell hr c30 (i := 0) rfl rfl)
    obtain ⟨s1, rfl⟩ := cell_string t9 (row_cell hr c30 (i := 1) rfl rfl)
    obtain ⟨n2, rfl⟩ := cell_int t3 (row_cell hr c30 (i := 2) rfl rfl)
    obtain ⟨s3, rfl⟩ := cell_string t9 (row_cell hr c30 (i := 3) rfl rfl)
    obtain ⟨s4, rfl⟩ := cell_string t9 (row_cell hr c30 (i := 4) rfl rfl)
    obtain ⟨s5, rfl⟩ := cell_string t9 (row_cell hr c30 (i := 5) rfl rfl)
    obtain ⟨b6, rfl⟩ := cell_bool t4 (row_cell hr c30 (i := 6) rfl rfl)
    exact ⟨b0, s1, n2, s3, s4, s5, b6, rfl⟩

theorem listed {w : World} {r : Reach} {b : Nat} {v : Value} (h : Value.okWide Tryz.prog w r b 51 v) :
    ∃ (x : Value) (s : ByteArray), v = .agg #[x, .string s] ∧ (x = .slice none 0 0 ∨ ∃ ab ao len cap, x = .slice (some ⟨ab, ao, none⟩) len cap ∧ len ≤ cap ∧ ab < w.heap.size) := by
  obtain ⟨fs, hu⟩ := struct_of (P := Tryz.prog) (t := 51) (by kernel_rfl)
  obtain ⟨cs, rfl, hs, hr⟩ := value_agg hu h
  rw [n51] at hs
  obtain ⟨l⟩ := cs
  match l, hs with
  | [x0, x1], _ =>
    obtain ⟨s1, rfl⟩ := cell_string t9 (row_cell hr c51 (i := 1) rfl rfl)
    exact ⟨x0, s1, rfl, cell_slice t49 (row_cell hr c51 (i := 0) rfl rfl)⟩

theorem none_calls {w : World} (hL : laidMetH Tryz.prog Rows.composeNoneRow.laid w) {r : Reach} {b : Nat} (loc : ByteArray) {v1 v2 : Value} (h1 : Value.okWide Tryz.prog w r b 30 v1) (h2 : Value.okWide Tryz.prog w r b 51 v2) :
    Calls Tryz.prog 8 #[.string loc, v1, v2] w fun e w' => e = .returned (.bool true) ∧ Below w.heap.size w w' := by
  obtain ⟨b0, s1, n2, s3, s4, s5, b6, rfl⟩ := measured h1
  obtain ⟨x, st, rfl, hx⟩ := listed h2
  have fin : ∀ (xs : List (Nat × Nat)) (hk : xs.length = 1) (sa : Option Addr) (sl se : Nat), (∀ y ∈ xs, y.1 < w.heap.size) → (∀ ab ao, Sh.V (kap w ab ao xs) x (.slice sa sl se)) →
      Calls Tryz.prog 8 #[.string loc, .agg #[.bool b0, .string s1, .int .i64 n2, .string s3, .string s4, .string s5, .bool b6], .agg #[x, .string st]] w fun e w' => e = .returned (.bool true) ∧ Below w.heap.size w w' := by
    intro xs hk sa sl se hxs hv
    refine (CallsIn.calls (runs hL (xs := xs) (by omega) hxs (args' := #[.string loc, .agg #[.bool b0, .string s1, .int .i64 n2, .string s3, .string s4, .string s5, .bool b6], .agg #[.slice sa sl se, .string st]]) (v := .bool true) (k := 100000) (d := 1000) (fun ab ao => ?_) ?_) room_wide).mono ?_
    · exact .cons (.string _) (.cons (.agg' (.cons (.bool _) (.cons (.string _) (.cons (.int _ _) (.cons (.string _) (.cons (.string _) (.cons (.string _) (.cons (.bool _) .nil)))))))) (.cons (.agg' (.cons (hv ab ao) (.cons (.string _) .nil))) .nil))
    · intro e3 e5 ep
      rw [hk]
      exact none_ran e3 e5 ep loc b0 s1 n2 s3 s4 s5 b6 sa sl se st
    · rintro e w' ⟨⟨u, ab, ao, κ', rfl, hu, _⟩, hb⟩
      cases hu
      exact ⟨rfl, hb⟩
  rcases hx with rfl | ⟨ab, ao, len, cap, rfl, hle, hlt⟩
  · exact fin [(3, 0)] rfl none 0 0 (fun y hy => by
      obtain rfl := List.mem_singleton.1 hy
      obtain ⟨_, _, _, _, _, hM⟩ := met_of hL
      have := hM.size
      simp only; omega) (fun _ _ => .snil)
  · refine fin [(ab, ao)] rfl (some ⟨12, 0, none⟩) len 0 (fun y hy => by obtain rfl := List.mem_singleton.1 hy; exact hlt) fun xb xo => ?_
    have := Sh.V.slice (κ := kap w xb xo [(ab, ao)]) (s := 12) (off := 0) (len := len) (cap := cap) (e := 0) (bi := ⟨ab, ao, 0⟩) (kap_extra (i := 0) (x := (ab, ao)) rfl) hle (.inl rfl)
    simpa using this

theorem lifted (os : Os) (started : os.Started) (H : Type) (enc : TypeId × Value → H) :
    ReturnsInHanded {} Tryz.checked os 8 .any (fun w args => (Rows.composeNoneSpec.pre enc Tryz.prog Tryz.f8 Rows.composeNoneRow.domain false w args ∧ laidMetH Tryz.prog Rows.composeNoneRow.laid w) ∧ sizedMet enc Tryz.prog Tryz.f8 (OpenSpec.ofChange Rows.composeNoneSpec) false w args)
      (Rows.composeNoneSpec.post enc Tryz.prog Tryz.f8 false true false false) := by
  refine returnsInHanded_of_change_and (C := Tryz.checked) (X := fun w _ => laidMetH Tryz.prog Rows.composeNoneRow.laid w) (fun _ _ _ hh h => h.of_heap hh) own started (by kernel_rfl) Tryz.func8
    (ChangeSpec.witness_shaped (enc := enc) (C := Tryz.checked) (os := os) (X := fun w _ => laidMetH Tryz.prog Rows.composeNoneRow.laid w) false (World.laidAll Tryz.prog os Rows.composeNoneRow.laid)
      #[.string .empty, .agg #[.bool false, .string .empty, .int .i64 0, .string .empty, .string .empty, .string .empty, .bool false], .agg #[.slice none 0 0, .string .empty]] 8 (World.laidAll_os _ _ _)
      (World.shaped_of_ZipB (by kernel_rfl) (by kernel_rfl)) (by kernel_rfl) (by kernel_rfl) (by kernel_rfl)
      (by rw [MakeChecks.laidMetH_plain _ _ _ (by kernel_rfl)]; exact laidMet_laidAll _ (by kernel_rfl) (by kernel_rfl))) ?_
  intro W base args ds gs before hval0 hW hc _ hL _
  have hval : ∀ (j : Nat) t v, Tryz.f8.params[j]? = some t → args[j]? = some v → Value.okWide Tryz.prog W .any base t v := hval0
  have hW' := hW
  obtain ⟨p, q, hA0, hV, rfl, _, _⟩ := hW
  have hA : DataW.TrodAll enc Tryz.prog W 0 (fun _ => true) true Tryz.f8.params.toList args.toList ds p := hA0
  rw [params8] at hA hval
  obtain ⟨v0, v1, v2, d0, d1, d2, p0, p1, p2, rfl, rfl, rfl, h0, h1, h2⟩ := trodAll_three hA
  obtain ⟨rfl, rfl⟩ := trodVars_none hV
  have h0k := h0
  obtain ⟨s, rfl, rfl, rfl, hs⟩ := open_string t9 (hval 0 9 v0 rfl rfl) h0
  simp only [List.append_nil, List.nil_append] at hW'
  have hlt := hW'.lt
  refine (none_calls hL s (hval 1 30 v1 rfl rfl) (hval 2 51 v2 rfl rfl)).mono fun e W' ⟨he, hw⟩ => ?_
  subst he
  refine ⟨_, rfl, _, _, _, [], [] ++ (p1 ++ p2), [], hW', ?_, ?_, rfl, Below.frame hw _, fun h => by cases h⟩
  · exact trodAll_mk1 (shut_bool t4 true)
  · rw [params8]
    exact trodAll_mk3 (Below.trod laidOut (by kernel_rfl) (of_decide_eq_true (by kernel_rfl)) h0k hw (fun x hx => by cases hx))
      (Below.trod laidOut (by kernel_rfl) (of_decide_eq_true (by kernel_rfl)) h1 hw (fun x hx => hlt x (by simp [hx])))
      (Below.trod laidOut (by kernel_rfl) (of_decide_eq_true (by kernel_rfl)) h2 hw (fun x hx => hlt x (by simp [hx])))

end Go.Proofs.YtffdpbhkkflgnaaGreatDoor
