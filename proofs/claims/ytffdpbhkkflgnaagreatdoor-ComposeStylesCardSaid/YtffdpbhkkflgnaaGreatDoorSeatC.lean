/- Facts of the program, and of a run, for the statement that imports this text. Conditions: as each theorem names them. -/
import Derived.Test.YtffdpbhkkflgnaaGreatDoorSeatB
namespace Go.Proofs.YtffdpbhkkflgnaaGreatDoor
open Go Go.Sh Go.RowKit
set_option maxRecDepth 100000

/-! ## The world in which the shadow begins -/
noncomputable def objs0 (e3 e5 ep : TypeId) : List SObj :=
  [.dead, .dead, .dead, .cells spaceV e3 false true 0, .dead, .cells [.iface 392 (.pointer (some ⟨11, 0, none⟩))] e5 false true 0, .dead, .dead, .dead, .dead, .dead, .cells [.string ⟨⟨syntaxText⟩⟩] ep false true 0]
noncomputable def objs (e3 e5 ep : TypeId) (k : Nat) : List SObj := objs0 e3 e5 ep ++ List.replicate k .dead

def sizeAt (w : World) (r : Nat) : Nat := match w.heap[r]? with | some (.cells c _ _) => c.size | _ => 0

def kap (w : World) (ab ao : Nat) (xs : List (Nat × Nat)) : K := fun s =>
  if s < 10 then some ⟨s, 0, sizeAt w s⟩ else if s = 11 then some ⟨ab, ao, sizeAt w ab⟩ else if s < 12 then none else (xs[s - 12]?).map fun x => ⟨x.1, x.2, 0⟩

theorem kap_glob {w : World} {ab ao : Nat} {xs : List (Nat × Nat)} : GlobR 10 (kap w ab ao xs) := by
  intro g hg
  exact ⟨⟨g, 0, sizeAt w g⟩, by simp [kap, hg], rfl, rfl⟩

theorem kap_extra {w : World} {ab ao : Nat} {xs : List (Nat × Nat)} {i : Nat} {x : Nat × Nat} (h : xs[i]? = some x) : kap w ab ao xs (12 + i) = some ⟨x.1, x.2, 0⟩ := by
  unfold kap
  rw [if_neg (by omega), if_neg (by omega), if_neg (by omega), show 12 + i - 12 = i by omega, h]
  rfl

theorem plain_all {κ : K} {l : List Value} (h : l.all (plainV 12) = true) : F2 (V κ) l l :=
  F2.of_get rfl fun i a b ha hb => by
    rw [ha] at hb; cases hb
    exact plainV_ok _ _ (List.all_eq_true.1 h a (List.mem_of_getElem? ha)) κ

theorem bits24 : Go.Sh.bits = 24 := rfl

theorem start_rel {w : World} {e3 e5 ep : TypeId} {ab ao : Nat} (hM : Met w e3 e5 ep ab ao) {xs : List (Nat × Nat)} (hk : xs.length ≤ 1000) (hxs : ∀ x ∈ xs, x.1 < w.heap.size) :
    Rel (kap w ab ao xs) (σof (objs e3 e5 ep xs.length)) w := by
  have hlen : (objs e3 e5 ep xs.length).length = 12 + xs.length := by simp [objs, objs0]; omega
  obtain ⟨fr3, h3⟩ := hM.space
  obtain ⟨fr5, h5⟩ := hM.syn
  obtain ⟨ct, frt, ht, hto⟩ := hM.text
  have hsz := hM.size
  refine rel_init (by rw [hlen, bits24]; omega) ?_ ?_ ?_
  · intro s bi hs
    rw [hlen]
    unfold kap at hs
    split at hs
    · cases hs; exact ⟨by omega, by simp only; omega⟩
    · split at hs
      · cases hs; exact ⟨by omega, lt_of_block ht⟩
      · split at hs
        · cases hs
        · obtain ⟨x, hx, rfl⟩ := Option.map_eq_some_iff.1 hs
          have := (List.getElem?_eq_some_iff.1 hx).1
          exact ⟨by omega, hxs x (List.mem_of_getElem? hx)⟩
  · intro o ho hl
    simp only [objs, objs0, List.mem_append, List.mem_cons, List.mem_nil_iff, or_false] at ho
    rcases ho with (rfl | rfl | rfl | rfl | rfl | rfl | rfl | rfl | rfl | rfl | rfl | rfl) | ho <;> first | rfl | (cases hl; done) | skip
    rw [List.eq_of_mem_replicate ho] at hl
    cases hl
  · intro s bi o hs ho
    have dead : o = .dead → OR (kap w ab ao xs) bi o w.heap[bi.r]? := by rintro rfl; trivial
    by_cases h12 : s < 12
    · have ho' : (objs0 e3 e5 ep)[s]? = some o := by
        rw [objs, List.getElem?_append_left (by simp [objs0]; exact h12)] at ho
        exact ho
      have hs' := hs
      match s, h12, hs, ho' with
      | 0, _, _, ho' | 1, _, _, ho' | 2, _, _, ho' | 4, _, _, ho' | 6, _, _, ho' | 7, _, _, ho' | 8, _, _, ho' | 9, _, _, ho' | 10, _, _, ho' => exact dead (by simpa [objs0] using ho'.symm)
      | 3, _, hs, ho' =>
        obtain rfl : SObj.cells spaceV e3 false true 0 = o := by simpa [objs0] using ho'
        obtain rfl : (⟨3, 0, sizeAt w 3⟩ : BI) = bi := by simpa [kap] using hs
        have hn : sizeAt w 3 = spaceV.toArray.size := by simp [sizeAt, h3]
        refine ⟨_, fr3, h3, hn.symm, by simp, ?_, (fun h => by cases h), (fun h => by cases h)⟩
        simp only [List.drop_zero, List.take_length]
        exact plain_all (by kernel_rfl)
      | 5, _, hs, ho' =>
        obtain rfl : SObj.cells [.iface 392 (.pointer (some ⟨11, 0, none⟩))] e5 false true 0 = o := by simpa [objs0] using ho'
        obtain rfl : (⟨5, 0, sizeAt w 5⟩ : BI) = bi := by simpa [kap] using hs
        have hn : sizeAt w 5 = 1 := by simp [sizeAt, h5]
        refine ⟨_, fr5, h5, by simp [hn], by simp, ?_, (fun h => by cases h), (fun h => by cases h)⟩
        have := V.ptr (κ := kap w ab ao xs) (s := 11) (off := 0) (bi := ⟨ab, ao, sizeAt w ab⟩) (by simp [kap])
        simp only [Nat.zero_add] at this
        exact .cons (.iface this) .nil
      | 11, _, hs, ho' =>
        obtain rfl : SObj.cells [.string ⟨⟨syntaxText⟩⟩] ep false true 0 = o := by simpa [objs0] using ho'
        obtain rfl : (⟨ab, ao, sizeAt w ab⟩ : BI) = bi := by simpa [kap] using hs
        have hn : sizeAt w ab = ct.size := by simp [sizeAt, ht]
        have hlt := (Array.getElem?_eq_some_iff.1 hto).1
        refine ⟨ct, frt, ht, hn.symm, by simp only [List.length_singleton]; omega, ?_, (fun h => by cases h), (fun h => by cases h)⟩
        have e1 : (ct.toList.drop ao).take 1 = [.string ⟨syntaxText.toArray⟩] := by
          have : ct.toList[ao]? = some (.string ⟨syntaxText.toArray⟩) := by simpa using hto
          rw [List.drop_eq_getElem_cons (by simpa using hlt)]
          have h2 : ct.toList[ao]'(by simpa using hlt) = .string ⟨syntaxText.toArray⟩ := by
            rw [List.getElem?_eq_getElem (by simpa using hlt)] at this
            exact Option.some.inj this
          rw [h2]
          rfl
        simp only [List.length_singleton]
        rw [e1]
        exact .cons (.string _) .nil
    · refine dead ?_
      rw [objs, List.getElem?_append_right (by simp [objs0]; omega)] at ho
      exact List.eq_of_mem_replicate (List.mem_of_getElem? ho)

theorem start_gk {w : World} {ab ao : Nat} {xs : List (Nat × Nat)} : GK E (kap w ab ao xs) := gk_of kap_glob codes

/-- A CLOSED CALL of this program's, in any world in which the listed variables lie as listed. -/
theorem runs {w : World} (hL : laidMetH Tryz.prog Rows.composeNoneRow.laid w) {f : FuncId} {xs : List (Nat × Nat)} (hk : xs.length ≤ 1000) (hxs : ∀ x ∈ xs, x.1 < w.heap.size) {args args' : Array Value} {v : Value} {k d : Nat}
    (ha : ∀ ab ao, VA (kap w ab ao xs) args args') (h : ∀ e3 e5 ep, ran (objs e3 e5 ep xs.length) v (fcall E k d (.fn f args') (σof (objs e3 e5 ep xs.length))) = true) :
    CallsIn Fence.wide 0 Tryz.prog f args w fun e w' => (∃ u ab ao κ', e = .returned u ∧ V κ' u v ∧ K.le (kap w ab ao xs) κ') ∧ Below w.heap.size w w' := by
  obtain ⟨e3, e5, ep, ab, ao, hM⟩ := met_of hL
  refine CallsIn.mono (closed_calls good start_gk ?_ (start_rel hM hk hxs) (ha ab ao) (h e3 e5 ep)) ?_
  · simp only [objs, objs0, List.length_append, List.length_cons, List.length_nil, List.length_replicate, bits24]; omega
  · rintro e w' ⟨⟨u, κ', h1, h2, h3⟩, h4⟩
    exact ⟨⟨u, ab, ao, κ', h1, h2, h3⟩, h4⟩
end Go.Proofs.YtffdpbhkkflgnaaGreatDoor
