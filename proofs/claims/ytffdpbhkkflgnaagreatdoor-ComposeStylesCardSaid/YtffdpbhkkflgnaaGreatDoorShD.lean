/- Single operations of the shadow are operations of the model, second part. Conditions: as each theorem names them. -/
import Derived.Test.YtffdpbhkkflgnaaGreatDoorShC
import Derived.Laws.Append
import Derived.Laws.IdiomStrings
import Derived.Lib.UnsafeStr
import Derived.Laws.LoneSync
import Derived.Laws.Cover2
import Derived.Laws.Runes
import Derived.Room.MakeNoZero

namespace Go.Sh
open Go

theorem Rel.kill {κ : K} {σ : SW} {w : World} (hR : Rel κ σ w) {s : Nat} {bi : BI} {o : SObj} {v : Nat} (hk : κ s = some bi) (hg : σ.get s = some o) (hv : ver o = some v) (hsb : σ.b ≤ s) :
    Rel κ (σ.setObj s .dead) w ∧ Post κ κ σ (σ.setObj s .dead) w w :=
  hR.upd hk hg hv (o' := .dead) (fun u hu => by cases hu) rfl (fun _ _ => rfl) rfl rfl rfl trivial (.inl hsb)

theorem Rel.move {κ : K} {σ : SW} {w w' : World} (hR : Rel κ σ w) {s : Nat} {bi bi' : BI} {o so : SObj} {v : Nat} (hk : κ s = some bi) (hg : σ.get s = some o) (hv : ver o = some v) (hr : bi'.r = bi.r)
    (hsz : w'.heap.size = w.heap.size) (hother : ∀ r, r ≠ bi.r → w'.heap[r]? = w.heap[r]?) (hos : w'.os = w.os) (ht : w'.tape = w.tape) (hout : w'.output = w.output)
    (hO : OR (κ.add σ.n bi') bi' so w'.heap[bi.r]?) (hd : bi'.d = 0) (hsb : σ.b ≤ s) :
    Rel (κ.add σ.n bi') ((σ.setObj s .dead).push so) w' ∧ Post κ (κ.add σ.n bi') σ ((σ.setObj s .dead).push so) w w' := by
  have hl := live_of_ver hv
  have hf := hR.fresh
  have hle := K.le_add (bi := bi') hf
  have hsn : s < σ.n := (hR.dom s bi hk).1
  have hn : (σ.setObj s .dead).n = σ.n := rfl
  have hkey : ∀ x b, κ.add σ.n bi' x = some b → (x = σ.n ∧ b = bi') ∨ (x ≠ σ.n ∧ κ x = some b) := by
    intro x b h
    by_cases hx : x = σ.n
    · subst hx; rw [K.add_same] at h; cases h; exact .inl ⟨rfl, rfl⟩
    · rw [K.add_ne hx] at h; exact .inr ⟨hx, h⟩
  have old : ∀ x ox, x ≠ σ.n → ((σ.setObj s .dead).push so).get x = some ox → (x = s ∧ ox = .dead) ∨ (x ≠ s ∧ σ.get x = some ox) := by
    intro x ox hx g
    rw [SW.get_push_ne (by rw [hn]; exact hx)] at g
    by_cases hs : x = s
    · subst hs; exact .inl ⟨rfl, SW.get_setObj_same g⟩
    · rw [SW.get_setObj_ne hs] at g; exact .inr ⟨hs, g⟩
  refine ⟨⟨by have := hR.base; show σ.b ≤ σ.n + 1; omega, fun x ox hx gx lx => ?_, fun x b h => ?_, fun x b h hxb => ?_, fun x b ox h g => ?_, fun s1 s2 b1 b2 o1 o2 k1 k2 g1 g2 l1 l2 hor hrr => ?_, fun x hx => by have hx : σ.n + 1 ≤ x := hx; rw [SW.get_push_ne (by rw [hn]; omega), SW.get_setObj_ne (by omega)]; exact hR.top x (by omega)⟩, ?_⟩
  · have hx' : x < σ.b := hx
    have := hR.base
    rcases old x ox (by omega) gx with ⟨rfl, rfl⟩ | ⟨_, g⟩
    · simp [live] at lx
    · exact hR.old x ox hx' g lx
  · rw [hsz]
    have hbi := hR.dom s bi hk
    rcases hkey x b h with ⟨rfl, rfl⟩ | ⟨_, h⟩
    · simp only [SW.push_n, hn]; omega
    · have := hR.dom x b h; simp only [SW.push_n, hn]; omega
  · rcases hkey x b h with ⟨rfl, rfl⟩ | ⟨_, h⟩
    · exact hd
    · exact hR.d0 x b h hxb
  · rcases hkey x b h with ⟨rfl, rfl⟩ | ⟨hx, h⟩
    · have : ox = so := SW.get_push_same (σ := σ.setObj s .dead) g
      rw [this, hr]; exact hO
    · rcases old x ox hx g with ⟨rfl, rfl⟩ | ⟨hs, g⟩
      · trivial
      · cases hlx : live ox with
        | false => cases ox <;> first | (simp [live] at hlx; done) | trivial
        | true =>
          have hne : b.r ≠ bi.r := fun e => hs (hR.inj x s b bi ox o h hk g hg hlx hl (.inr hsb) e)
          rw [hother _ hne]
          exact (hR.cont x b ox h g).mono hle
  · rcases hkey s1 b1 k1 with ⟨e1, f1⟩ | ⟨h1, k1⟩ <;> rcases hkey s2 b2 k2 with ⟨e2, f2⟩ | ⟨h2, k2⟩
    · rw [e1, e2]
    · exfalso
      rcases old s2 o2 h2 g2 with ⟨rfl, rfl⟩ | ⟨hs, g⟩
      · simp [live] at l2
      · exact hs (hR.inj s2 s b2 bi o2 o k2 hk g hg l2 hl (.inr hsb) (by rw [← hrr, f1, hr]))
    · exfalso
      rcases old s1 o1 h1 g1 with ⟨rfl, rfl⟩ | ⟨hs, g⟩
      · simp [live] at l1
      · exact hs (hR.inj s1 s b1 bi o1 o k1 hk g hg l1 hl (.inr hsb) (by rw [hrr, f2, hr]))
    · rcases old s1 o1 h1 g1 with ⟨rfl, rfl⟩ | ⟨_, g1⟩
      · simp [live] at l1
      · rcases old s2 o2 h2 g2 with ⟨rfl, rfl⟩ | ⟨_, g2⟩
        · simp [live] at l2
        · exact hR.inj s1 s2 b1 b2 o1 o2 k1 k2 g1 g2 l1 l2 hor hrr
  · exact {
      le := hle
      base := rfl
      news := fun x b h h' => by
        rcases hkey x b h' with ⟨rfl, _⟩ | ⟨_, h2⟩
        · exact Nat.le_refl _
        · rw [h] at h2; cases h2
      n := by simp
      others := fun x hx h => by
        rw [SW.get_push_ne (by rw [hn]; omega)]
        exact SW.get_setObj_ne fun e => by rw [e, hk] at h; cases h
      size := by omega
      os := hos
      tape := ht
      output := hout
      keep := fun r hr2 hall => by
        by_cases hb : r = bi.r
        · obtain ⟨o'', h1, h2⟩ := hall s bi o v hk hg hb.symm hv
          rcases old s o'' (by omega) h1 with ⟨_, rfl⟩ | ⟨hs, _⟩
          · cases h2
          · exact absurd rfl hs
        · exact hother r hb
      vers := fun x ox u hx g hu => by
        rcases old x ox (by omega) g with ⟨rfl, rfl⟩ | ⟨_, g⟩
        · cases hu
        · exact ⟨ox, u, g, hu, Nat.le_refl _⟩
      reuse := fun x b h h' hb => by
        rcases hkey x b h' with ⟨_, rfl⟩ | ⟨_, h2⟩
        · refine .inr ⟨s, bi, o, v, hk, hg, hv, hr.symm, fun ox g => ?_⟩
          rcases old s ox (by omega) g with ⟨_, rfl⟩ | ⟨hs, _⟩
          · rfl
          · exact absurd rfl hs
        · rw [h] at h2; cases h2 }

section
variable {P : Program} {E : Env} {κ : K} {σ : SW} {w : World}

theorem zeroCells_rep (z : Array Value) (n : Nat) : (Builtin.zeroCells z n).toList = rep n z.toList := by
  unfold Builtin.zeroCells
  by_cases h0 : n * z.size = 0
  · have : rep n z.toList = [] := by
      rcases Nat.mul_eq_zero.1 h0 with h | h
      · subst h; rfl
      · have hz : z.toList = [] := List.eq_nil_of_length_eq_zero (by simpa using h)
        rw [hz]; exact rep_nil n
    rw [this, h0]
    simp
  · exact rep_range z n z.size rfl h0

theorem rep_length (n : Nat) (z : List Value) : (rep n z).length = n * z.length := by
  induction n with
  | zero => simp [rep]
  | succ n ih => rw [rep, List.length_append, ih, Nat.succ_mul]; omega

theorem cell_heap {w w2 : World} (h : w2.heap = w.heap) (a : Addr) : w2.cell? a = w.cell? a := by
  simp only [World.cell?, h]

/-- What is appended: how much there is of it, and its cells. -/
theorem r_news {nt : Nat} (hz : ZP P nt) (hR : Rel κ σ w) {elem : TypeId} {info : TypeInfo} {z : Value} (hnt : elem < nt) (hi : P.info? elem = some info) (hzz : info.zero = some z) {zs : Bool} {x x' : Value} {n : Nat} {news' : List Value}
    (hx : V κ x x') (h : snews σ info.size z.cells.toList zs x' = some (n, news')) (hzl : zs = true → n ≠ 0 → z.cells.toList.length = info.size) :
    (zs = true → ∃ k : IntKind, x = .int k (n : Int) ∧ n ≤ big) ∧ (zs = false → ∀ w, (Builtin.lenOf x).run P w = .ok n w) ∧
    ∃ news, F2 (V κ) news news' ∧ (zs = false → ∀ w2 : World, w2.heap = w.heap → (Builtin.firstCells info.size n x).run P w2 = .ok ⟨news⟩ w2) ∧ (zs = true → n * info.size = 0 → news = []) ∧
      (zs = true → n * info.size ≠ 0 → Builtin.zeroCells z.cells n = ⟨news⟩) := by
  unfold snews at h
  cases zs with
  | true =>
    cases hx <;> first | (simp at h; done) | skip
    rename_i k l
    simp only at h
    cases hb : (decide (0 ≤ l) && decide (l ≤ (big : Int))) with
    | false => rw [hb] at h; simp at h
    | true =>
      rw [hb] at h
      simp only [cond_true, Option.some.injEq, Prod.mk.injEq] at h
      obtain ⟨rfl, rfl⟩ := h
      simp only [Bool.and_eq_true, decide_eq_true_eq] at hb
      refine ⟨fun _ => ⟨k, by congr 1; omega, by omega⟩, (fun h => by cases h), rep l.toNat z.cells.toList, ?_, (fun h => by cases h), fun _ h0 => ?_, fun _ _ => ?_⟩
      · have hzc : F2 (V κ) z.cells.toList z.cells.toList := (hz elem info z hnt hi hzz κ).cells
        have : ∀ n, F2 (V κ) (rep n z.cells.toList) (rep n z.cells.toList) := by
          intro n
          induction n with
          | zero => exact .nil
          | succ n ih => exact hzc.append ih
        exact this _
      · by_cases hn0 : l.toNat = 0
        · rw [hn0]; rfl
        · have hl := hzl rfl hn0
          refine List.eq_nil_of_length_eq_zero ?_
          rw [rep_length, hl, h0]
      · apply Array.ext'
        exact zeroCells_rep _ _
  | false =>
    refine ⟨fun h => (by cases h), ?_⟩
    have nof : ∀ {p : Prop}, (false = true → p) := fun h => by cases h
    cases hx <;> first | (simp at h; done) | skip
    · rename_i s
      simp only [Option.some.injEq, Prod.mk.injEq] at h
      obtain ⟨rfl, rfl⟩ := h
      have hs : s.size = s.data.toList.length := by simp
      refine ⟨fun _ w => by simp only [Builtin.lenOf, Sem.run_pure]; rw [hs], byteList s, ?_, fun _ w2 _ => ?_, nof, nof⟩
      · exact F2.mapSame _ _ _ fun b _ => .int _ _
      · simp only [Builtin.firstCells, Sem.run_pure]
        congr 1
        apply Array.ext'
        simp only [byteList, Array.toList_map]
        rw [← hs, ba_extract]
        simp only [List.drop_zero, Nat.sub_zero]
        rw [hs, List.take_length]
    · simp only [Option.some.injEq, Prod.mk.injEq] at h
      obtain ⟨rfl, rfl⟩ := h
      exact ⟨fun _ w => by simp [Builtin.lenOf], [], .nil, fun _ w2 _ => by simp [Builtin.firstCells], nof, nof⟩
    · rename_i s off len cap e bi hk hle hb
      simp only at h
      cases hl : loadList σ ⟨s, off, none⟩ (len * info.size) with
      | none => rw [hl] at h; simp at h
      | some l =>
        rw [hl] at h
        simp only [Option.some.injEq, Prod.mk.injEq] at h
        obtain ⟨rfl, rfl⟩ := h
        have har : AR κ ⟨bi.r, off + bi.d, none⟩ ⟨s, off, none⟩ := ⟨bi, hk, rfl, rfl⟩
        obtain ⟨lr, hf, hlen, hc⟩ := loadList_rel hR har hl
        refine ⟨fun _ w => by simp [Builtin.lenOf], lr, hf, fun _ w2 hw2 => ?_, nof, nof⟩
        have := run_loadCells_list (P := P) (w := w2) ⟨bi.r, off + bi.d, none⟩ lr (fun j v hj => by rw [cell_heap hw2]; exact hc j v hj)
        rw [hlen] at this
        exact this
    · rename_i ra sa e bz hkz
      simp only at h
      cases hl : loadList σ sa (0 * info.size) with
      | none => rw [hl] at h; simp at h
      | some l =>
        rw [hl] at h
        simp only [Option.some.injEq, Prod.mk.injEq] at h
        obtain ⟨rfl, rfl⟩ := h
        have hnil : l = [] := by
          unfold loadList at hl
          cases hsp : sa.spot with
          | some _ => rw [hsp] at hl; simp at hl
          | none =>
            rw [hsp] at hl
            cases hg : σ.get sa.block with
            | none => rw [hg] at hl; simp at hl
            | some o =>
              rw [hg] at hl
              cases o with
              | cells c e x f v =>
                simp only [Nat.zero_mul, Nat.add_zero, List.take_zero] at hl
                cases hb : Nat.ble sa.off c.length with
                | false => rw [hb] at hl; simp at hl
                | true => rw [hb] at hl; simp at hl; exact hl
              | _ => simp at hl
        subst hnil
        exact ⟨fun _ w => by simp [Builtin.lenOf], [], .nil, fun _ w2 _ => by simp [Builtin.firstCells, loadCells, loadCellsFrom], nof, nof⟩

theorem run_chooseCap {need old : Nat} {e : TypeId} : (choose (.appendCap need old e)).run P w = .ok (need + w.tape w.drawn (.appendCap need old e) % (2 ^ 63 - need)) w.drew := by
  simp only [choose, Sem.run, Question.forced]
  rfl

/-- The two ways of an append that brings something. -/
theorem r_grow (hR : Rel κ σ w) {elem : TypeId} {size sLen n : Nat} {base base' : Option Addr} {sCap e : Nat} {news news' : List Value} {v' : Value} {σ' : SW} (hs : V κ (.slice base sLen sCap) (.slice base' sLen e))
    (hf : F2 (V κ) news news') (hl : news'.length = n * size) (h1 : ∀ v ∈ news', Sh.oneCell v = true) (h : sgrow σ elem size base' sLen e n news' = some (v', σ')) (hpos : 0 < n) (hsize : 0 < size) :
    (sLen + n ≤ sCap → ∃ a w' κ', base = some a ∧ (storeCells (a.add (sLen * size)) news).run P w = .ok () w' ∧ V κ' (.slice (some a) (sLen + n) sCap) v' ∧ Rel κ' σ' w' ∧ Post κ κ' σ σ' w w') ∧
    (sCap < sLen + n → ∃ old, (∀ w2 : World, w2.heap = w.heap → (Builtin.firstCells size sLen (.slice base sLen sCap)).run P w2 = .ok ⟨old⟩ w2) ∧
      ∀ (rest : List Value) (cap : Nat), sLen + n ≤ cap → rest.length = (cap - (sLen + n)) * size → ∀ w2 : World, w2.heap = w.heap → w2.os = w.os → w2.tape = w.tape → w2.output = w.output →
        ∃ κ', V κ' (.slice (some ⟨w2.heap.size, 0, none⟩) (sLen + n) cap) v' ∧ Rel κ' σ' (w2.alloc (.cells ⟨old ++ (news ++ rest)⟩ elem)) ∧ Post κ κ' σ σ' w (w2.alloc (.cells ⟨old ++ (news ++ rest)⟩ elem))) := by
  have hfl := hf.length
  have post_of : ∀ {κ' : K} {σ' : SW} {w2 w3 : World}, w2.heap = w.heap → w2.os = w.os → w2.tape = w.tape → w2.output = w.output → Post κ κ' σ σ' w2 w3 → Post κ κ' σ σ' w w3 := by
    intro κ' σ' w2 w3 hh ho ht hu hp
    exact { hp with
      size := by rw [← hh]; exact hp.size
      os := hp.os.trans ho
      tape := hp.tape.trans ht
      output := hp.output.trans hu
      keep := fun r hr hall => by rw [hp.keep r (by rw [hh]; exact hr) hall, hh]
      reuse := fun s bi h h' hb => hp.reuse s bi h h' (by rw [hh]; exact hb) }
  unfold sgrow at h
  cases hs with
  | snil =>
    simp only [Option.some.injEq, Prod.mk.injEq] at h
    obtain ⟨rfl, rfl⟩ := h
    refine ⟨fun h => by omega, fun _ => ⟨[], fun w2 _ => by simp [Builtin.firstCells], fun rest cap hcap hrest w2 hh ho ht hu => ?_⟩⟩
    simp only [List.nil_append, Nat.zero_add] at hcap hrest ⊢
    have hR2 := hR.of_heap hh
    obtain ⟨hR', hP'⟩ := hR2.new (.cells news' elem false false 0) (.cells ⟨news ++ rest⟩ elem) ⟨w2.heap.size, 0, (news ++ rest).length⟩ rfl (by
      refine ⟨_, (0, 0), rfl, rfl, by simp [hfl], ?_, (fun h => by cases h), fun _ => .inl rfl⟩
      simp only [List.drop_zero]
      rw [← hfl, List.take_left]
      exact hf.mono fun _ _ h => h.mono (K.le_add hR.fresh))
    refine ⟨_, ?_, hR', post_of hh ho ht hu hP'⟩
    have := V.slice (κ := κ.add σ.n ⟨w2.heap.size, 0, (news ++ rest).length⟩) (s := σ.n) (off := 0) (len := n) (cap := cap) (e := size) (K.add_same _ _ _) hcap (.inr (by
      simp only [List.length_append, hfl, hl, hrest, Nat.zero_add, ← Nat.add_mul]
      exact Nat.mul_le_mul_right _ (by omega)))
    simpa using this
  | @slice s off _ _ _ bi hk hle hbd =>
    simp only at h
    cases hg : σ.get s with
    | none => rw [hg] at h; simp at h
    | some o =>
      rw [hg] at h
      cases o with
      | cells c elem' x f vr =>
        cases f with
        | true => simp at h
        | false =>
          simp only at h
          cases hb : (Nat.beq elem elem' && Nat.beq e size && Nat.beq off 0 && Nat.ble (off + sLen * size) c.length && Nat.ble σ.b s) with
          | false => rw [hb] at h; simp at h
          | true =>
            rw [hb] at h
            simp only [cond_true, Option.some.injEq, Prod.mk.injEq] at h
            obtain ⟨rfl, rfl⟩ := h
            simp only [Bool.and_eq_true] at hb
            obtain ⟨⟨⟨⟨b1, b2⟩, b0⟩, b3⟩, b5⟩ := hb
            have b5 := Nat.le_of_ble_eq_true b5
            obtain rfl := Nat.eq_of_beq_eq_true b1
            obtain rfl := Nat.eq_of_beq_eq_true b2
            have b0 := Nat.eq_of_beq_eq_true b0
            have b3 := Nat.le_of_ble_eq_true b3
            obtain ⟨cr, fr, g1, g2, g3, g4, g5, g6⟩ := hR.cont _ _ _ hk hg
            have hbd' : off + bi.d + sCap * e ≤ bi.n := by
              rcases hbd with h | h
              · omega
              · exact h
            have har : AR κ ⟨bi.r, off + bi.d, none⟩ ⟨s, off, none⟩ := ⟨bi, hk, rfl, rfl⟩
            have hll : loadList σ ⟨s, off, none⟩ (sLen * e) = some ((c.drop off).take (sLen * e)) := by
              unfold loadList
              simp only [hg]
              have : Nat.ble (off + sLen * e) c.length = true := Nat.ble_eq_true_of_le b3
              rw [this]; rfl
            obtain ⟨old, hof, holen, hoc⟩ := loadList_rel hR har hll
            have hnl : ((c.drop off).take (sLen * e)).length = sLen * e := by simp only [List.length_take, List.length_drop]; omega
            refine ⟨fun hroom => ?_, fun hno => ⟨old, fun w2 hw2 => ?_, fun rest cap hcap hrest w2 hh ho ht hu => ?_⟩⟩
            · -- in place
              have hmul : (sLen + n) * e ≤ sCap * e := Nat.mul_le_mul_right _ hroom
              rw [Nat.add_mul] at hmul
              have hadd : ((⟨bi.r, off + bi.d, none⟩ : Addr).add (sLen * e)) = ⟨bi.r, off + bi.d + sLen * e, none⟩ := by
                unfold Addr.add; by_cases h0 : sLen * e = 0 <;> simp [h0]
              obtain ⟨w', r1, r2, r3, r4, r5, r6, r7⟩ := r_storeCells (P := P) (r := bi.r) (o := off + bi.d + sLen * e) news 0 cr w g1 (g6 rfl) (by rw [hfl, hl, g2]; omega) (hf.one h1)
              have hcrl : (⟨cr.toList.take (off + bi.d + sLen * e + 0) ++ (news ++ cr.toList.drop (off + bi.d + sLen * e + 0 + news.length))⟩ : Array Value).size = cr.size := by
                simp only [List.size_toArray, List.length_append, List.length_take, List.length_drop, Array.length_toList]; omega
              obtain ⟨hR', hP'⟩ := hR.move (bi' := ⟨bi.r, off + bi.d, bi.n⟩) (so := .cells ((c.drop off).take (sLen * e) ++ news') elem false false 0) hk hg rfl rfl r2 r3 r4 r5 r6 (by
                refine ⟨_, fr, r7, by rw [hcrl, g2], ?_, ?_, (fun h => by cases h), fun _ => by rw [hcrl]; exact g6 rfl⟩
                · show off + bi.d + ((c.drop off).take (sLen * e) ++ news').length ≤ _
                  rw [hcrl, List.length_append, hnl, hl, g2]; omega
                · have hA : F2 (V κ) (((cr.toList.drop bi.d).take c.length).drop off |>.take (sLen * e)) ((c.drop off).take (sLen * e)) := (g4.drop off).take _
                  have hall := hA.append hf
                  have e1 : ((⟨cr.toList.take (off + bi.d + sLen * e + 0) ++ (news ++ cr.toList.drop (off + bi.d + sLen * e + 0 + news.length))⟩ : Array Value).toList.drop (off + bi.d)).take ((c.drop off).take (sLen * e) ++ news').length =
                      (((cr.toList.drop bi.d).take c.length).drop off).take (sLen * e) ++ news := by
                    rw [List.length_append, hnl, ← hfl]
                    simp only [Nat.add_zero]
                    apply List.ext_getElem?
                    intro i
                    have hcl : cr.toList.length = cr.size := by simp
                    simp only [List.getElem?_take, List.getElem?_drop, List.getElem?_append, List.length_take, List.length_drop, hcl]
                    by_cases q1 : i < sLen * e
                    · have q2 : i < sLen * e + news.length := by omega
                      have q3 : off + bi.d + i < min (off + bi.d + sLen * e) cr.size := by omega
                      have q4 : off + bi.d + i < off + bi.d + sLen * e := by omega
                      have q5 : i < min (sLen * e) (min c.length (cr.size - bi.d) - off) := by omega
                      have q6 : off + i < c.length := by omega
                      simp only [q1, q2, q3, q4, q5, q6, if_true]
                      congr 1
                      omega
                    · by_cases q2 : i < sLen * e + news.length
                      · have q3 : ¬ off + bi.d + i < min (off + bi.d + sLen * e) cr.size := by omega
                        have q5 : ¬ i < min (sLen * e) (min c.length (cr.size - bi.d) - off) := by omega
                        have q6 : off + bi.d + i - min (off + bi.d + sLen * e) cr.size < news.length := by omega
                        simp only [q2, q3, q5, q6, if_true, if_false]
                        congr 1
                        omega
                      · have q5 : ¬ i < min (sLen * e) (min c.length (cr.size - bi.d) - off) := by omega
                        simp only [q2, q5, if_false]
                        symm
                        apply List.getElem?_eq_none
                        omega
                  rw [e1]
                  exact hall.mono fun _ _ h => h.mono (K.le_add hR.fresh)) (by have := hR.d0 _ _ hk b5; show off + bi.d = 0; omega) b5
              refine ⟨_, w', _, rfl, by rw [hadd]; exact r1, ?_, hR', hP'⟩
              have := V.slice (κ := κ.add σ.n ⟨bi.r, off + bi.d, bi.n⟩) (s := σ.n) (off := 0) (len := sLen + n) (cap := sCap) (e := e) (K.add_same _ _ _) hroom (.inr (by simp only [Nat.zero_add]; exact hbd'))
              simpa using this
            · have := run_loadCells_list (P := P) (w := w2) ⟨bi.r, off + bi.d, none⟩ old (fun j v hj => by rw [cell_heap hw2]; exact hoc j v hj)
              rw [holen] at this
              exact this
            · -- new memory
              obtain ⟨hRk, hPk⟩ := hR.kill hk hg rfl b5
              have hR2 := hRk.of_heap hh
              have hol := hof.length
              obtain ⟨hR', hP'⟩ := hR2.new (.cells ((c.drop off).take (sLen * e) ++ news') elem false false 0) (.cells ⟨old ++ (news ++ rest)⟩ elem) ⟨w2.heap.size, 0, (old ++ (news ++ rest)).length⟩ rfl (by
                refine ⟨_, (0, 0), rfl, rfl, ?_, ?_, (fun h => by cases h), fun _ => .inl rfl⟩
                · simp only [List.length_append, hnl, List.size_toArray]; omega
                · simp only [List.drop_zero]
                  have e1 : (old ++ (news ++ rest)).take ((c.drop off).take (sLen * e) ++ news').length = old ++ news := by
                    rw [List.length_append, ← hol, ← hfl, ← List.append_assoc, ← List.length_append, List.take_left]
                  rw [e1]
                  exact (hof.append hf).mono fun _ _ h => h.mono (K.le_add hR.fresh))
              have hP2 := post_of hh ho ht hu (Post.refl κ σ w2)
              refine ⟨_, ?_, hR', ?_⟩
              · have := V.slice (κ := κ.add σ.n ⟨w2.heap.size, 0, (old ++ (news ++ rest)).length⟩) (s := σ.n) (off := 0) (len := sLen + n) (cap := cap) (e := e) (K.add_same _ _ _) hcap (.inr (by
                  simp only [List.length_append, hol, hnl, hfl, hl, hrest, Nat.zero_add]
                  have : sLen * e + (n * e + (cap - (sLen + n)) * e) = cap * e := by rw [← Nat.add_mul, ← Nat.add_mul]; congr 1; omega
                  omega))
                simpa using this
              · have hPk2 : Post κ κ σ (σ.setObj s .dead) w w2 :=
                  { hPk with
                    size := by rw [hh]; exact Nat.le_refl _
                    os := ho
                    tape := ht
                    output := hu
                    keep := fun r hr hall => by rw [hh] }
                exact Post.trans (fun s bi h => (hR.dom s bi h).1) (fun s bi h => (hR2.dom s bi h).1) hPk2 hP'
      | _ => simp at h
  | @szero ra sa _ bz hkz =>
    refine ⟨fun h => by omega, fun _ => ⟨[], fun w2 _ => by simp [Builtin.firstCells, loadCells, loadCellsFrom], fun rest cap hcap hrest w2 hh ho ht hu => ?_⟩⟩
    simp only at h
    cases hsp : sa.spot with
    | some _ => rw [hsp] at h; simp at h
    | none =>
      rw [hsp] at h
      cases hg : σ.get sa.block with
      | none => rw [hg] at h; simp at h
      | some o =>
        rw [hg] at h
        cases o with
        | cells c elem' x f vr =>
          cases f with
          | true => simp at h
          | false =>
            simp only at h
            cases hb : (Nat.beq elem elem' && Nat.beq e size && Nat.beq sa.off 0 && Nat.ble (sa.off + 0 * size) c.length && Nat.ble σ.b sa.block) with
            | false => rw [hb] at h; simp at h
            | true =>
              rw [hb] at h
              simp only [cond_true, Option.some.injEq, Prod.mk.injEq, Nat.zero_mul, List.take_zero, List.nil_append] at h
              obtain ⟨rfl, rfl⟩ := h
              simp only [Bool.and_eq_true] at hb
              obtain ⟨hRk, hPk⟩ := hR.kill hkz hg rfl (Nat.le_of_ble_eq_true hb.2)
              have hR2 := hRk.of_heap hh
              simp only [Nat.zero_add] at hcap hrest
              obtain ⟨hR', hP'⟩ := hR2.new (.cells news' elem false false 0) (.cells ⟨[] ++ (news ++ rest)⟩ elem) ⟨w2.heap.size, 0, (news ++ rest).length⟩ rfl (by
                refine ⟨_, (0, 0), rfl, rfl, by simp [hfl], ?_, (fun h => by cases h), fun _ => .inl rfl⟩
                simp only [List.drop_zero, List.nil_append]
                rw [← hfl, List.take_left]
                exact hf.mono fun _ _ h => h.mono (K.le_add hR.fresh))
              refine ⟨_, ?_, hR', ?_⟩
              · have := V.slice (κ := κ.add σ.n ⟨w2.heap.size, 0, (news ++ rest).length⟩) (s := σ.n) (off := 0) (len := n) (cap := cap) (e := size) (K.add_same _ _ _) hcap (.inr (by
                  simp only [List.length_append, hfl, hl, hrest, Nat.zero_add, ← Nat.add_mul]
                  exact Nat.mul_le_mul_right _ (by omega)))
                simpa using this
              · have hPk2 : Post κ κ σ (σ.setObj sa.block .dead) w w2 :=
                  { hPk with
                    size := by rw [hh]; exact Nat.le_refl _
                    os := ho
                    tape := ht
                    output := hu
                    keep := fun r hr hall => by rw [hh] }
                exact Post.trans (fun s bi h => (hR.dom s bi h).1) (fun s bi h => (hR2.dom s bi h).1) hPk2 hP'
        | _ => simp at h
end
end Go.Sh

namespace Go.Sh
open Go

section
variable {P : Program} {E : Env} {κ : K} {σ : SW} {w : World}

theorem va_at {a a' : Array Value} (h : VA κ a a') {i : Nat} {v' : Value} (hv : a'[i]? = some v') : ∃ v, a[i]? = some v ∧ V κ v v' := by
  obtain ⟨v, h1, h2⟩ := F2.get h (i := i) (b := v') (by simpa using hv)
  exact ⟨v, by simpa using h1, h2⟩

/-- The second type of an append says whether noughts are made. -/
theorem szeros_none {o : Option TypeId} {zs : Bool} (h : szeros P o = some zs) : (o = none ∧ zs = false) ∨ ∃ t d, o = some t ∧ P.underlying t = some d ∧ ((∃ k, d = .int k) ∧ zs = true ∨ (∀ k, d ≠ .int k) ∧ zs = false) := by
  unfold szeros at h
  cases o with
  | none => simp at h; exact .inl ⟨rfl, h⟩
  | some t =>
    simp only at h
    cases hu : P.underlying t with
    | none => rw [hu] at h; simp at h
    | some d =>
      rw [hu] at h
      refine .inr ⟨t, d, rfl, hu, ?_⟩
      cases d <;> simp at h <;> simp [h]

theorem run_append_same {argTypes : Array TypeId} {ty sType elem : TypeId} {args : Array Value} {x : Value} {base : Option Addr} {sLen sCap n : Nat} {info : TypeInfo} {zs : Bool} {news : List Value} {w' : World}
    (h0 : argTypes[0]? = some sType) (h1 : args[0]? = some (.slice base sLen sCap)) (h2 : args[1]? = some x) (hu : P.underlying sType = some (.slice elem)) (hi : P.info? elem = some info)
    {z : Value} (hzz : info.zero = some z) (hz : szeros P argTypes[1]? = some zs) (hx : zs = true → ∃ k : IntKind, x = .int k (n : Int) ∧ n ≤ big) (hb : n * (info.bytes + 1) ≤ big)
    (hl : zs = false → (Builtin.lenOf x).run P w = .ok n w)
    (hn1 : zs = false → (Builtin.firstCells info.size n x).run P w = .ok ⟨news⟩ w) (hn2 : zs = true → n * info.size = 0 → news = []) (hn3 : zs = true → n * info.size ≠ 0 → Builtin.zeroCells z.cells n = ⟨news⟩)
    (hroom : sLen + n ≤ sCap) (hst : match base with | some a => (storeCells (a.add (sLen * info.size)) news).run P w = .ok () w' | none => w' = w) :
    (Builtin.append_ argTypes ty args).run P w = .ok (.slice base (sLen + n) sCap) w' := by
  have hbig : big = 70368744177664 := by simp [big]
  unfold Builtin.append_
  simp only [h0, h1, h2, Sem.run_bind, r_under hu, Result.andThen, r_size hi]
  have hbn : info.bytes * n ≤ big := by
    have : n * (info.bytes + 1) = n * info.bytes + n := Nat.mul_succ _ _
    rw [Nat.mul_comm]; omega
  have fin : ∀ (o : Option Addr), o = base → (match o with
      | some a => (do storeCells (a.add (sLen * info.size)) (⟨news⟩ : Array Value).toList; pure (Value.slice o (sLen + n) sCap) : Sem Value)
      | none => pure (Value.slice o (sLen + n) sCap)).run P w = .ok (.slice base (sLen + n) sCap) w' := by
    intro o ho
    subst ho
    cases o with
    | none => simp only at hst; subst hst; simp
    | some a => simp only at hst; simp [hst, Result.andThen]
  cases zs with
  | false =>
    have hl := hl rfl
    have hn1 := hn1 rfl
    rcases szeros_none hz with ⟨hnone, _⟩ | ⟨t, d, ht, hd, ⟨_, hf⟩ | ⟨hnd, _⟩⟩
    · simp only [hnone, Sem.run_bind, Sem.run_pure, Result.andThen, Bool.false_eq_true, if_false, hl, if_pos hroom, Bool.not_false, if_true, hn1]
      have := fin base rfl
      cases base <;> exact this
    · cases hf
    · have := fin base rfl
      cases d <;> first
        | exact absurd rfl (hnd _)
        | (simp only [ht, Sem.run_bind, r_under hd, Sem.run_pure, Result.andThen, Bool.false_eq_true, if_false, hl, if_pos hroom, Bool.not_false, if_true, hn1]
           cases base <;> exact this)
  | true =>
    obtain ⟨k, rfl, hnb⟩ := hx rfl
    have hw := wrap_small hnb
    have hneg : ¬ ((n : Int) < 0) := by omega
    have hby : ¬ ((n : Int) * (info.bytes : Int) > 2 ^ 48) := by
      have : (n : Int) * (info.bytes : Int) ≤ (big : Int) := by rw [Int.mul_comm]; exact_mod_cast hbn
      omega
    rcases szeros_none hz with ⟨_, hf⟩ | ⟨t, d, ht, hd, ⟨⟨kk, rfl⟩, _⟩ | ⟨_, hf⟩⟩
    · cases hf
    · simp only [ht, Sem.run_bind, r_under hd, Sem.run_pure, Result.andThen, if_true, asInt, asIntOf, hw, if_neg hneg, r_info hi, if_neg hby, Int.toNat_natCast, if_pos hroom, Bool.not_true, Bool.false_eq_true, if_false]
      by_cases h00 : n * info.size = 0
      · have hnn := hn2 rfl h00
        simp only [if_pos h00, Sem.run_pure]
        have := fin base rfl
        rw [hnn] at this
        cases base <;> exact this
      · have hnn := hn3 rfl h00
        simp only [if_neg h00, Sem.run_bind, r_zero hi hzz, Result.andThen, Sem.run_pure, hnn]
        have := fin base rfl
        cases base <;> exact this
    · cases hf

def capOf (w : World) (need old : Nat) (e : TypeId) : Nat := need + w.tape w.drawn (.appendCap need old e) % (2 ^ 63 - need)

theorem run_append_more {argTypes : Array TypeId} {ty sType elem : TypeId} {args : Array Value} {x : Value} {base : Option Addr} {sLen sCap n : Nat} {info : TypeInfo} {zs : Bool} {news old : List Value}
    (h0 : argTypes[0]? = some sType) (h1 : args[0]? = some (.slice base sLen sCap)) (h2 : args[1]? = some x) (hu : P.underlying sType = some (.slice elem)) (hi : P.info? elem = some info)
    {z : Value} (hzz : info.zero = some z) (hz : szeros P argTypes[1]? = some zs) (hx : zs = true → ∃ k : IntKind, x = .int k (n : Int) ∧ n ≤ big) (hb : (sLen + n) * (info.bytes + 1) ≤ big) (_hbpos : 0 < info.bytes)
    (hl : zs = false → (Builtin.lenOf x).run P w = .ok n w)
    (hn1 : zs = false → (Builtin.firstCells info.size n x).run P w.drew = .ok ⟨news⟩ w.drew) (hn2 : zs = true → n * info.size = 0 → news = []) (hn3 : zs = true → n * info.size ≠ 0 → Builtin.zeroCells z.cells n = ⟨news⟩)
    (hroom : sCap < sLen + n) (hold : (Builtin.firstCells info.size sLen (.slice base sLen sCap)).run P w.drew = .ok ⟨old⟩ w.drew) :
    (Builtin.append_ argTypes ty args).run P w = .ok (.slice (some ⟨w.heap.size, 0, none⟩) (sLen + n) (capOf w (sLen + n) sCap elem))
      (w.drew.alloc (.cells ⟨old ++ (news ++ rep (capOf w (sLen + n) sCap elem - (sLen + n)) z.cells.toList)⟩ elem)) := by
  have hbig : big = 70368744177664 := by simp [big]
  have hsum : (sLen + n) * (info.bytes + 1) = (sLen + n) * info.bytes + (sLen + n) := Nat.mul_succ _ _
  have hnb2 : info.bytes * n ≤ big := by
    have : n * info.bytes ≤ (sLen + n) * info.bytes := Nat.mul_le_mul_right _ (by omega)
    rw [Nat.mul_comm]; omega
  have hnoroom : ¬ (sLen + n ≤ sCap) := by omega
  have hfits : ¬ (Builtin.nextslicecap (sLen + n) sCap * info.bytes > 2 ^ 48) := by
    have := growslice_fits (need := sLen + n) (old := sCap) (bytes := info.bytes) hroom (by omega)
    omega
  have hmax : ∀ p : Prop, ¬ (((sLen + n : Nat) : Int) > IntKind.i64.max ∧ p) := by
    intro p
    have : IntKind.i64.max = 9223372036854775807 := by simp [IntKind.max, IntKind.signed, IntKind.bits]
    rw [this]
    omega
  have hcells : ∀ (cap : Nat), ((⟨old⟩ : Array Value) ++ ⟨news⟩ ++ Builtin.zeroCells z.cells (cap - (sLen + n))) = ⟨old ++ (news ++ rep (cap - (sLen + n)) z.cells.toList)⟩ := by
    intro cap
    apply Array.ext'
    simp only [Array.toList_append, zeroCells_rep, List.append_assoc]
  unfold Builtin.append_
  simp only [h0, h1, h2, Sem.run_bind, r_under hu, Result.andThen, r_size hi]
  cases zs with
  | false =>
    have hl := hl rfl
    have hn1 := hn1 rfl
    rcases szeros_none hz with ⟨hnone, _⟩ | ⟨t, d, ht, hd, ⟨_, hf⟩ | ⟨hnd, _⟩⟩
    · simp only [hnone, Sem.run_bind, Sem.run_pure, Result.andThen, Bool.false_eq_true, if_false, hl, if_neg hnoroom, Bool.not_false, if_true, r_info hi, if_neg (hmax _), if_neg hfits, run_chooseCap, r_askRoom, hold, hn1, r_zero hi hzz, newRow, newObj, Sem.run, hcells]
      rfl
    · cases hf
    · cases d <;> first
        | exact absurd rfl (hnd _)
        | (simp only [ht, r_under hd, Sem.run_bind, Sem.run_pure, Result.andThen, Bool.false_eq_true, if_false, hl, if_neg hnoroom, Bool.not_false, if_true, r_info hi, if_neg (hmax _), if_neg hfits, run_chooseCap, r_askRoom, hold, hn1, r_zero hi hzz, newRow, newObj, Sem.run, hcells]
           rfl)
  | true =>
    obtain ⟨k, rfl, hnb⟩ := hx rfl
    have hw := wrap_small hnb
    have hneg : ¬ ((n : Int) < 0) := by omega
    have hby : ¬ ((n : Int) * (info.bytes : Int) > 2 ^ 48) := by
      have : (n : Int) * (info.bytes : Int) ≤ (big : Int) := by rw [Int.mul_comm]; exact_mod_cast hnb2
      omega
    rcases szeros_none hz with ⟨_, hf⟩ | ⟨t, d, ht, hd, ⟨⟨kk, rfl⟩, _⟩ | ⟨_, hf⟩⟩
    · cases hf
    · by_cases h00 : n * info.size = 0
      · have hnn := hn2 rfl h00
        subst hnn
        simp only [ht, Sem.run_bind, r_under hd, Sem.run_pure, Result.andThen, if_true, asInt, asIntOf, hw, if_neg hneg, r_info hi, if_neg hby, Int.toNat_natCast, if_neg hnoroom, Bool.not_true, Bool.false_eq_true, if_false,
          if_neg (hmax _), if_neg hfits, run_chooseCap, r_askRoom, hold, if_pos h00, r_zero hi hzz, newRow, newObj, Sem.run]
        have := hcells (capOf w (sLen + n) sCap elem)
        rw [← this]
        rfl
      · have hnn := hn3 rfl h00
        simp only [ht, Sem.run_bind, r_under hd, Sem.run_pure, Result.andThen, if_true, asInt, asIntOf, hw, if_neg hneg, r_info hi, if_neg hby, Int.toNat_natCast, if_neg hnoroom, Bool.not_true, Bool.false_eq_true, if_false,
          if_neg (hmax _), if_neg hfits, run_chooseCap, r_askRoom, hold, if_neg h00, r_zero hi hzz, newRow, newObj, Sem.run, hnn]
        have := hcells (capOf w (sLen + n) sCap elem)
        rw [← this]
        rfl
    · cases hf

theorem r_append (hz : ZP E.P E.nt) (hR : Rel κ σ w) {argTypes : Array TypeId} {ty : TypeId} {args args' : Array Value} {v' : Value} {σ' : SW} (ha : VA κ args args') (h : sappend E argTypes args' σ = some (v', σ')) :
    SimV E.P κ σ w (Builtin.append_ argTypes ty args) v' σ' := by
  unfold sappend at h
  cases h0 : argTypes[0]? with
  | none => rw [h0] at h; simp at h
  | some sType =>
    cases h1 : args'[0]? with
    | none => rw [h0, h1] at h; simp at h
    | some s' =>
      cases h2 : args'[1]? with
      | none => rw [h0, h1, h2] at h; cases s' <;> simp at h
      | some x' =>
        rw [h0, h1, h2] at h
        cases s' <;> first | (simp at h; done) | skip
        rename_i base' sLen e
        simp only at h
        cases hu : E.P.underlying sType with
        | none => rw [hu] at h; simp at h
        | some d =>
          rw [hu] at h
          cases d <;> first | (simp at h; done) | skip
          rename_i elem
          simp only at h
          cases hi : E.P.info? elem with
          | none => rw [hi] at h; simp at h
          | some info =>
            rw [hi] at h
            simp only at h
            obtain ⟨hnt, h⟩ := of_guard_lt h
            cases hzs : szeros E.P argTypes[1]? with
            | none => rw [hzs] at h; simp at h
            | some zs =>
              cases hzz : info.zero with
              | none => rw [hzs, hzz] at h; simp at h
              | some z =>
                rw [hzs, hzz] at h
                simp only at h
                obtain ⟨s, hs1, hsv⟩ := va_at ha h1
                obtain ⟨x, hx1, hxv⟩ := va_at ha h2
                have hslice : ∃ base sCap, s = .slice base sLen sCap ∧ sLen ≤ sCap ∧ (base = none → sLen = 0) := by
                  cases hsv with
                  | snil => exact ⟨_, _, rfl, Nat.le_refl _, fun _ => rfl⟩
                  | slice _ hle _ => exact ⟨_, _, rfl, hle, fun h => by cases h⟩
                  | szero _ => exact ⟨_, _, rfl, Nat.le_refl _, fun h => by cases h⟩
                obtain ⟨base, sCap, rfl, hle, hbn⟩ := hslice
                cases hn : snews σ info.size z.cells.toList zs x' with
                | none => rw [hn] at h; simp at h
                | some nn =>
                  obtain ⟨n, news'⟩ := nn
                  rw [hn] at h
                  cases n with
                  | zero =>
                    simp only [Option.some.injEq, Prod.mk.injEq] at h
                    obtain ⟨rfl, rfl⟩ := h
                    obtain ⟨g1, g2, news, g3, g4, g5, g6⟩ := r_news hz hR hnt hi hzz hxv hn (fun _ h => absurd rfl h)
                    have hnil : news = [] ∨ zs = false := by
                      cases zs with
                      | true => exact .inl (g5 rfl (by simp))
                      | false => exact .inr rfl
                    -- nothing is brought
                    have hnn : ∃ news, (zs = false → (Builtin.firstCells info.size 0 x).run E.P w = .ok ⟨news⟩ w) ∧ (zs = true → 0 * info.size = 0 → news = []) ∧ news = [] := by
                      refine ⟨[], fun hzf => ?_, fun _ _ => rfl, rfl⟩
                      have := g4 hzf w rfl
                      cases hxv <;> first | (simp [Builtin.firstCells, loadCells, loadCellsFrom]; done) | skip
                      all_goals first
                        | (simp only [Builtin.firstCells]; congr 1; apply Array.ext'; rw [ba_extract]; simp; done)
                        | (exfalso; subst hzf; simp [snews] at hn; done)
                    obtain ⟨news0, q1, q2, rfl⟩ := hnn
                    refine SimV.still hR ⟨.slice base sLen sCap, ?_, hsv⟩
                    refine run_append_same (n := 0) h0 hs1 hx1 hu hi hzz hzs g1 (by simp) (fun hf => g2 hf w) q1 q2 (fun _ h => absurd (by simp) h) (by omega) ?_
                    cases base with
                    | none => rfl
                    | some a => simp [storeCells]
                  | succ n =>
                    simp only at h
                    cases hb : (Nat.ble ((sLen + (n + 1)) * (info.bytes + 1)) big && Nat.blt 0 info.size && Nat.blt 0 info.bytes && Nat.beq z.cells.toList.length info.size && Nat.beq news'.length ((n + 1) * info.size) && allOne news') with
                    | false => rw [hb] at h; simp at h
                    | true =>
                      rw [hb] at h
                      simp only [cond_true] at h
                      simp only [Bool.and_eq_true] at hb
                      obtain ⟨⟨⟨⟨⟨b1, b2⟩, b3⟩, b4⟩, b5⟩, b6⟩ := hb
                      have b1 := Nat.le_of_ble_eq_true b1
                      have b2 : 0 < info.size := by simpa [Nat.blt_eq] using b2
                      have b3 : 0 < info.bytes := by simpa [Nat.blt_eq] using b3
                      have b4 := Nat.eq_of_beq_eq_true b4
                      have b5 := Nat.eq_of_beq_eq_true b5
                      obtain ⟨g1, g2, news, g3, g4, g5, g6⟩ := r_news hz hR hnt hi hzz hxv hn (fun _ _ => b4)
                      obtain ⟨i1, i2⟩ := r_grow (P := E.P) hR hsv g3 b5 (allOne_spec b6) h (by omega) b2
                      have hbn1 : (n + 1) * (info.bytes + 1) ≤ big := Nat.le_trans (Nat.mul_le_mul_right _ (by omega)) b1
                      by_cases hroom : sLen + (n + 1) ≤ sCap
                      · obtain ⟨a, w', κ', rfl, r1, r2, r3, r4⟩ := i1 hroom
                        exact ⟨_, w', κ', run_append_same h0 hs1 hx1 hu hi hzz hzs g1 hbn1 (fun hf => g2 hf w) (fun hf => g4 hf w rfl) g5 g6 hroom r1, r2, r3, r4⟩
                      · obtain ⟨old, r1, r2⟩ := i2 (by omega)
                        have hcap : sLen + (n + 1) ≤ capOf w (sLen + (n + 1)) sCap elem := by unfold capOf; omega
                        obtain ⟨κ', k1, k2, k3⟩ := r2 (rep (capOf w (sLen + (n + 1)) sCap elem - (sLen + (n + 1))) z.cells.toList) _ hcap (by rw [rep_length, b4]) w.drew rfl rfl rfl rfl
                        exact ⟨_, _, κ', run_append_more h0 hs1 hx1 hu hi hzz hzs g1 b1 b3 (fun hf => g2 hf w) (fun hf => g4 hf w.drew rfl) g5 g6 (by omega) (r1 w.drew rfl), k1, k2, k3⟩
end
end Go.Sh

namespace Go.Sh
open Go

section
variable {P : Program} {E : Env} {κ : K} {σ : SW} {w : World}

theorem bytesOfList_spec : ∀ {l : List Value} {bs : List UInt8}, bytesOfList l = some bs → l = bs.map fun b => Value.int .u8 (b.toNat : Int)
  | [], bs, h => by simp only [bytesOfList, Option.some.injEq] at h; subst h; rfl
  | v :: r, bs, h => by
    cases v <;> first | (simp [bytesOfList] at h; done) | skip
    rename_i k n
    cases k <;> first | (simp [bytesOfList] at h; done) | skip
    cases n with
    | negSucc n => simp [bytesOfList] at h
    | ofNat n =>
      unfold bytesOfList at h
      cases hb : Nat.blt n 256 with
      | false => rw [hb] at h; simp at h
      | true =>
        cases hr : bytesOfList r with
        | none => rw [hb, hr] at h; simp at h
        | some l =>
          rw [hb, hr] at h
          simp only [Option.some.injEq] at h
          subst h
          have hn : n < 256 := by simpa [Nat.blt_eq] using hb
          rw [List.map_cons, ← bytesOfList_spec hr]
          congr 2
          have : (UInt8.ofNat n).toNat = n := by simp [Nat.mod_eq_of_lt hn]
          rw [this]
          rfl

theorem F2.ints {l : List Value} {bs : List UInt8} (h : F2 (V κ) l (bs.map fun b => Value.int .u8 (b.toNat : Int))) : l = bs.map fun b => Value.int .u8 (b.toNat : Int) := by
  induction bs generalizing l with
  | nil => cases h; rfl
  | cons b bs ih =>
    cases h with
    | cons hab ht =>
      cases hab
      rw [List.map_cons, ← ih ht]

theorem Post.of_heap {κ κ' : K} {σ σ' : SW} {w w2 w3 : World} (hh : w2.heap = w.heap) (ho : w2.os = w.os) (ht : w2.tape = w.tape) (hu : w2.output = w.output) (hp : Post κ κ' σ σ' w2 w3) : Post κ κ' σ σ' w w3 :=
  { hp with
    size := by rw [← hh]; exact hp.size
    os := hp.os.trans ho
    tape := hp.tape.trans ht
    output := hp.output.trans hu
    keep := fun r hr hall => by rw [hp.keep r (by rw [hh]; exact hr) hall, hh]
    reuse := fun s bi h h' hb => hp.reuse s bi h h' (by rw [hh]; exact hb) }

theorem runes_plain (κ : K) (s : ByteArray) : ∀ (b i : Nat) (acc : Array Value), F2 (V κ) acc.toList acc.toList → F2 (V κ) (Conv.runesFrom s b i acc).toList (Conv.runesFrom s b i acc).toList := by
  intro b
  induction b with
  | zero => intro i acc h; simpa [Conv.runesFrom] using h
  | succ b ih =>
    intro i acc h
    unfold Conv.runesFrom
    split
    · refine ih _ _ ?_
      simp only [Array.toList_push]
      exact h.append (.cons (.int _ _) .nil)
    · exact h

def scalarV : Value → Bool
  | .int .. | .float .. | .string _ | .pointer _ => true
  | _ => false

theorem SimV.drew {t : Sem Value} {v v' : Value} {σ' : SW} {κ' : K} {w3 : World} (h1 : t.run P w = .ok v w3) (h2 : V κ' v v') (h3 : Rel κ' σ' w3) (h4 : Post κ κ' σ σ' w.drew w3) : SimV P κ σ w t v' σ' :=
  ⟨v, w3, κ', h1, h2, h3, Post.of_heap (w2 := w.drew) rfl rfl rfl rfl h4⟩

theorem r_convert (hR : Rel κ σ w) {src dst : TypeId} {x x' v' : Value} {σ' : SW} (hx : V κ x x')
    (h : sconvert E src dst x' σ = some (v', σ')) : SimV E.P κ σ w (convert src dst x) v' σ' := by
  unfold sconvert at h
  cases hs : E.P.underlying src with
  | none => rw [hs] at h; cases hx <;> simp at h
  | some ds =>
    cases hd : E.P.underlying dst with
    | none => rw [hs, hd] at h; cases hx <;> cases ds <;> simp at h
    | some dd =>
      rw [hs, hd] at h
      have hss : (E.P.underlying src).isSome = true := by rw [hs]; rfl
      cases hx with
      | string s =>
        by_cases hdd : dd = .string
        · subst hdd
          have h' : some (Value.string s, σ) = some (v', σ') := by cases ds <;> exact h
          simp only [Option.some.injEq, Prod.mk.injEq] at h'
          obtain ⟨rfl, rfl⟩ := h'
          refine SimV.still hR ⟨_, ?_, .string s⟩
          cases ds <;> simp [convert, r_under hs, r_under hd]
        cases ds <;> first | (cases dd <;> first | exact absurd rfl hdd | (simp at h; done)) | skip
        cases dd <;> first | exact absurd rfl hdd | (simp at h; done) | skip
        rename_i e
        simp only at h
        cases he : E.P.underlying e with
        | none => rw [he] at h; simp at h
        | some de =>
          rw [he] at h
          cases de <;> first | (simp at h; done) | skip
          rename_i k
          cases k <;> first | (simp at h; done) | skip
          · -- runes
            simp only at h
            cases hb : Nat.ble (Conv.runesFrom s s.size 0 #[]).toList.length big with
            | false => rw [hb] at h; simp at h
            | true =>
              rw [hb] at h
              simp only [cond_true, Option.some.injEq, Prod.mk.injEq] at h
              obtain ⟨rfl, rfl⟩ := h
              have hle := Nat.le_of_ble_eq_true hb
              have hbig : big = 70368744177664 := by simp [big]
              have hrun := run_runes_of_string (P := E.P) w src dst e s hs hd he (by rw [← hbig]; simpa using hle)
              have hcap := grownCap_ge w (Conv.runesFrom s s.size 0 #[]).size 0 e
              obtain ⟨hR', hP'⟩ := (hR.of_heap (w' := w.drew) rfl).new (.cells (Conv.runesFrom s s.size 0 #[]).toList e false false 0)
                (.cells (Conv.runesFrom s s.size 0 #[] ++ Array.replicate (grownCap w (Conv.runesFrom s s.size 0 #[]).size 0 e - (Conv.runesFrom s s.size 0 #[]).size) (.int .i32 0)) e)
                ⟨w.heap.size, 0, grownCap w (Conv.runesFrom s s.size 0 #[]).size 0 e⟩ rfl (by
                  refine ⟨_, (0, 0), rfl, ?_, ?_, ?_, (fun h => by cases h), fun _ => .inl rfl⟩
                  · simp; omega
                  · simp
                  · simp only [List.drop_zero, Array.toList_append]
                    rw [List.take_left]
                    exact runes_plain _ _ _ _ _ .nil)
              refine SimV.drew hrun ?_ hR' hP'
              have := V.slice (κ := κ.add σ.n ⟨w.heap.size, 0, grownCap w (Conv.runesFrom s s.size 0 #[]).size 0 e⟩) (s := σ.n) (off := 0) (len := (Conv.runesFrom s s.size 0 #[]).size) (cap := grownCap w (Conv.runesFrom s s.size 0 #[]).size 0 e) (e := 1) (K.add_same _ _ _) hcap (.inr (by simp))
              simpa using this
          · -- bytes
            simp only [Option.some.injEq, Prod.mk.injEq] at h
            obtain ⟨rfl, rfl⟩ := h
            have hrun := run_bytes_of_string (P := E.P) w src dst e s hs hd he
            have hcap := grownCap_ge w s.size 0 e
            have hsz : s.size = s.data.toList.length := by simp
            have hrl : (bytesRow s (grownCap w s.size 0 e)).toList = byteList s ++ List.replicate (grownCap w s.size 0 e - s.size) (.int .u8 0) := by
              simp [bytesRow, byteList]
            have hbl : (byteList s).length = s.size := by rw [hsz]; simp [byteList]
            have hrs : (bytesRow s (grownCap w s.size 0 e)).size = grownCap w s.size 0 e := by
              have : (bytesRow s (grownCap w s.size 0 e)).toList.length = grownCap w s.size 0 e := by
                rw [hrl, List.length_append, hbl, List.length_replicate]; omega
              simpa using this
            obtain ⟨hR', hP'⟩ := (hR.of_heap (w' := w.drew) rfl).new (.cells (byteList s) e false false 0)
              (.cells (bytesRow s (grownCap w s.size 0 e)) e ((bytesRow s (grownCap w s.size 0 e)).size, (bytesRow s (grownCap w s.size 0 e)).size + 1))
              ⟨w.heap.size, 0, grownCap w s.size 0 e⟩ rfl (by
                refine ⟨_, _, rfl, hrs, ?_, ?_, (fun h => by cases h), fun _ => .inr (Nat.le_refl _)⟩
                · rw [hrs, hbl]; simpa using hcap
                · simp only [List.drop_zero]
                  rw [hrl, List.take_left]
                  exact F2.mapSame _ _ _ fun b _ => .int _ _)
            refine SimV.drew hrun ?_ hR' hP'
            have := V.slice (κ := κ.add σ.n ⟨w.heap.size, 0, grownCap w s.size 0 e⟩) (s := σ.n) (off := 0) (len := s.size) (cap := grownCap w s.size 0 e) (e := 1) (K.add_same _ _ _) hcap (.inr (by simp))
            simpa using this
      | int k n =>
        cases dd <;> first | (cases ds <;> simp at h; done) | skip
        · rename_i k'
          have h' : some (Value.int k' (swrap k' n), σ) = some (v', σ') := by cases ds <;> exact h
          simp only [Option.some.injEq, Prod.mk.injEq] at h'
          obtain ⟨rfl, rfl⟩ := h'
          refine SimV.still hR ⟨_, ?_, .int _ _⟩
          rw [swrap_eq]
          simp [convert, r_under hs, r_under hd, Conv.intToInt]
        · rename_i k'
          have h' : some (Value.float k' (k'.nearest n), σ) = some (v', σ') := by cases ds <;> exact h
          simp only [Option.some.injEq, Prod.mk.injEq] at h'
          obtain ⟨rfl, rfl⟩ := h'
          refine SimV.still hR ⟨_, ?_, .float _ _⟩
          exact run_convert_int_float w src dst k k' n hss hd
        · have h' : some (Value.string (Utf8.encode n), σ) = some (v', σ') := by cases ds <;> exact h
          simp only [Option.some.injEq, Prod.mk.injEq] at h'
          obtain ⟨rfl, rfl⟩ := h'
          exact SimV.still hR ⟨_, run_convert_int_string w src dst k n hss hd, .string _⟩
      | float k n => cases ds <;> first | (simp at h; done) | (cases dd <;> simp at h; done)
      | pnil => cases ds <;> first | (simp at h; done) | (cases dd <;> simp at h; done)
      | @ptr s off bi hk =>
        by_cases h1 : dd = .unsafePointer
        · subst h1
          cases ds <;> first | (simp at h; done) | skip
          rename_i t
          simp only at h
          cases hg : σ.get s with
          | none => rw [hg] at h; simp at h
          | some o =>
            rw [hg] at h
            cases o <;> first | (simp at h; done) | skip
            rename_i c e x f vr
            cases hi : E.P.info? t with
            | none => rw [hi] at h; simp at h
            | some i =>
              rw [hi] at h
              simp only at h
              cases hlt : Nat.blt off c.length with
              | false => rw [hlt] at h; simp at h
              | true =>
                rw [hlt] at h
                cases hsz : i.size with
                | zero => rw [hsz] at h; simp at h
                | succ m =>
                  rw [hsz] at h
                  simp only [Option.some.injEq, Prod.mk.injEq] at h
                  obtain ⟨rfl, rfl⟩ := h
                  have hlt' : off < c.length := by simpa [Nat.blt_eq] using hlt
                  obtain ⟨v, hv, _⟩ := hR.cell (a := ⟨bi.r, off + bi.d, none⟩) (a' := ⟨s, off, none⟩) ⟨bi, hk, rfl, rfl⟩ (v' := c[off]) (by simp [SW.cell, hg, hlt'])
                  exact SimV.still hR ⟨_, run_convert_to_unsafe hs hd (by simp [hi, hsz]) hv, .ptr hk⟩
        · by_cases h2 : ds = .unsafePointer
          · subst h2
            cases dd <;> first | (simp at h; done) | exact absurd rfl h1 | skip
            rename_i u
            simp only at h
            cases hg : σ.get s with
            | none => rw [hg] at h; simp at h
            | some o =>
              rw [hg] at h
              cases o <;> first | (simp at h; done) | skip
              rename_i c e x f vr
              cases x <;> first | (simp at h; done) | skip
              cases hi : E.P.info? u with
              | none => rw [hi] at h; simp at h
              | some i =>
                rw [hi] at h
                simp only at h
                cases hl : liesAt E.P E.P.depth e (c.length / E.P.cellsOf e) off u 1 with
                | false => rw [hl] at h; simp at h
                | true =>
                  rw [hl] at h
                  simp only [Option.some.injEq, Prod.mk.injEq] at h
                  obtain ⟨rfl, rfl⟩ := h
                  obtain ⟨cr, fr, g1, g2, g3, g4, g5, g6⟩ := hR.cont _ _ _ hk hg
                  obtain ⟨d0, hcl⟩ := g5 rfl
                  have hsh : w.shape? bi.r = some (e, cr.size) := by simp [World.shape?, g1]
                  rw [hcl] at hl
                  refine SimV.still hR ⟨_, ?_, .ptr hk⟩
                  simp [convert, Conv.unsafePointer, Conv.seenAt, viewAt, variablesAt, sizeOf, typeInfo, r_under hs, r_under hd, hi, hsh, d0, hl, Result.andThen, Sem.run_bind]
          · exfalso
            cases ds <;> first | exact absurd rfl h2 | (cases dd <;> first | exact absurd rfl h1 | (simp at h; done))
      | snil =>
        cases ds <;> first | (simp at h; done) | skip
        cases dd <;> first | (simp at h; done) | skip
        rename_i e
        simp only at h
        cases he : E.P.underlying e with
        | none => rw [he] at h; simp at h
        | some de =>
          rw [he] at h
          cases de <;> first | (simp at h; done) | skip
          rename_i k
          cases k <;> first | (simp at h; done) | skip
          simp only [Option.some.injEq, Prod.mk.injEq] at h
          obtain ⟨rfl, rfl⟩ := h
          refine SimV.still hR ⟨_, ?_, .string _⟩
          simp [convert, r_under hs, r_under hd, r_under he, Conv.bytesToString]
      | @slice s off len cap e bi hk hle hbd =>
        cases ds <;> first | (simp at h; done) | skip
        rename_i es
        cases dd <;> first | (simp at h; done) | skip
        · -- bytes to a string
          simp only at h
          cases he : E.P.underlying es with
          | none => rw [he] at h; simp at h
          | some de =>
            rw [he] at h
            cases de <;> first | (simp at h; done) | skip
            rename_i k
            cases k <;> first | (simp at h; done) | skip
            simp only at h
            cases hl : loadList σ ⟨s, off, none⟩ len with
            | none => rw [hl] at h; simp at h
            | some l' =>
              rw [hl] at h
              simp only at h
              cases hb : bytesOfList l' with
              | none => rw [hb] at h; simp at h
              | some bs =>
                rw [hb] at h
                simp only [Option.some.injEq, Prod.mk.injEq] at h
                obtain ⟨rfl, rfl⟩ := h
                have har : AR κ ⟨bi.r, off + bi.d, none⟩ ⟨s, off, none⟩ := ⟨bi, hk, rfl, rfl⟩
                obtain ⟨l, hf, hlen, hc⟩ := loadList_rel hR har hl
                have hl' := bytesOfList_spec hb
                rw [hl'] at hf
                have hll := hf.ints
                subst hll
                simp only [List.length_map] at hlen
                subst hlen
                refine SimV.still hR ⟨_, ?_, .string _⟩
                exact run_convert_bytes_back w src dst es ⟨bi.r, off + bi.d, none⟩ cap bs hs he hd (fun j hj => hc j _ (by simp [hj]))
        · -- the same bytes again
          rename_i ed
          cases len with
          | zero => simp at h
          | succ len =>
            simp only at h
            cases hb : Nat.beq src dst with
            | false => rw [hb] at h; simp at h
            | true =>
              obtain rfl := Nat.eq_of_beq_eq_true hb
              rw [hs] at hd
              cases hd
              cases he : E.P.underlying es with
              | none => rw [hb, he] at h; simp at h
              | some de =>
                rw [hb, he] at h
                cases de <;> first | (simp at h; done) | skip
                rename_i k
                cases k <;> first | (simp at h; done) | skip
                cases hg : σ.get s with
                | none => rw [hg] at h; simp at h
                | some o =>
                  rw [hg] at h
                  cases o <;> first | (simp at h; done) | skip
                  rename_i c el x f vr
                  cases f <;> first | (simp at h; done) | skip
                  simp only [Option.some.injEq, Prod.mk.injEq] at h
                  obtain ⟨rfl, rfl⟩ := h
                  obtain ⟨cr, fr, g1, g2, g3, g4, g5, g6⟩ := hR.cont _ _ _ hk hg
                  have hsh : w.shape? bi.r = some (el, cr.size) := by simp [World.shape?, g1]
                  have hf1 : (w.freeze ⟨bi.r, cr.size, none⟩ 1).heap[bi.r]? = some (.cells cr el (if fr.1 == fr.2 then (cr.size, cr.size + 1) else (min fr.1 cr.size, max fr.2 (cr.size + 1)))) := by
                    unfold World.freeze
                    rw [if_neg (by decide)]
                    simp only [Array.getElem?_modify, if_true, g1, Option.map_some]
                  obtain ⟨hR', hP'⟩ := hR.upd (w' := w.freeze ⟨bi.r, cr.size, none⟩ 1) (o' := .cells c el x false (vr + 1)) hk hg (v := vr) rfl (by intro u hu; simp only [Sh.ver, Option.some.injEq] at hu; omega)
                    (by unfold World.freeze; rw [if_neg (by decide)]; simp) (fun r hr => by unfold World.freeze; rw [if_neg (by decide)]; simp [Array.getElem?_modify, Ne.symm hr]) (by unfold World.freeze; rw [if_neg (by decide)]) (by unfold World.freeze; rw [if_neg (by decide)]) (by unfold World.freeze; rw [if_neg (by decide)])
                    (by
                      refine ⟨cr, _, hf1, g2, g3, g4, g5, fun _ => ?_⟩
                      right
                      split
                      · exact Nat.le_refl _
                      · rename_i hne
                        have := g6 rfl
                        rcases this with h | h
                        · simp [h] at hne
                        · simp only; omega)
                  refine ⟨.slice (some ⟨bi.r, off + bi.d, none⟩) (len + 1) cap, _, κ, ?_, .slice hk hle hbd, hR', hP'⟩
                  simp [convert, r_under hs, r_under he, markStringish, shape, freeze, Sem.run, hsh, Sem.run_bind, Result.andThen]
      | @szero ra sa e bz hkz =>
        cases ds <;> first | (simp at h; done) | skip
        rename_i es
        cases dd <;> first | (simp at h; done) | skip
        simp only at h
        cases he : E.P.underlying es with
        | none => rw [he] at h; simp at h
        | some de =>
          rw [he] at h
          cases de <;> first | (simp at h; done) | skip
          rename_i k
          cases k <;> first | (simp at h; done) | skip
          simp only at h
          cases hl : loadList σ sa 0 with
          | none => rw [hl] at h; simp at h
          | some l' =>
            have hnil : l' = [] := by
              unfold loadList at hl
              cases hsp : sa.spot with
              | some _ => rw [hsp] at hl; simp at hl
              | none =>
                rw [hsp] at hl
                cases hg : σ.get sa.block with
                | none => rw [hg] at hl; simp at hl
                | some o =>
                  rw [hg] at hl
                  cases o with
                  | cells c e x f v =>
                    simp only [Nat.add_zero, List.take_zero] at hl
                    cases hb : Nat.ble sa.off c.length with
                    | false => rw [hb] at hl; simp at hl
                    | true => rw [hb] at hl; simp at hl; exact hl
                  | _ => simp at hl
            subst hnil
            rw [hl] at h
            simp only [bytesOfList, Option.some.injEq, Prod.mk.injEq] at h
            obtain ⟨rfl, rfl⟩ := h
            refine SimV.still hR ⟨_, ?_, .string _⟩
            have := run_convert_bytes_back (P := E.P) w src dst es ra 0 [] hs he hd (fun j hj => by simp at hj)
            simpa using this
      | _ => cases ds <;> first | (simp at h; done) | (cases dd <;> simp at h)
end
end Go.Sh

namespace Go.Sh
open Go

section
variable {P : Program} {E : Env} {κ : K} {σ : SW} {w : World}

theorem va_two {args : Array Value} {a b : Value} {args' : Array Value} (ha : VA κ args args') (h : args'.toList = [a, b]) : ∃ x y, args = #[x, y] ∧ V κ x a ∧ V κ y b := by
  unfold VA at ha
  rw [h] at ha
  obtain ⟨l⟩ := args
  simp only at ha
  cases ha with
  | cons h1 ht =>
    cases ht with
    | cons h2 ht => cases ht; exact ⟨_, _, rfl, h1, h2⟩
theorem va_one {args : Array Value} {a : Value} {args' : Array Value} (ha : VA κ args args') (h : args'.toList = [a]) : ∃ x, args = #[x] ∧ V κ x a := by
  unfold VA at ha
  rw [h] at ha
  obtain ⟨l⟩ := args
  simp only at ha
  cases ha with
  | cons h1 ht => cases ht; exact ⟨_, rfl, h1⟩

theorem r_unsafeString (hR : Rel κ σ w) {argTypes : Array TypeId} {ty : TypeId} {args args' : Array Value} {v' : Value} {σ' : SW} (ha : VA κ args args') (h : sunsafeString E argTypes args' σ = some (v', σ')) :
    SimV E.P κ σ w (Builtin.unsafeString_ argTypes ty args) v' σ' := by
  unfold sunsafeString at h
  have hts : ∃ pt it, argTypes = #[pt, it] := by
    obtain ⟨l⟩ := argTypes
    simp only at h
    rcases l with _ | ⟨a, _ | ⟨b, _ | ⟨_, _⟩⟩⟩
    · simp at h
    · simp at h
    · exact ⟨a, b, rfl⟩
    · simp at h
  obtain ⟨pt, it, rfl⟩ := hts
  simp only at h
  have hcases : ∃ p n, args'.toList = [.pointer p, .int .i64 (.ofNat n)] := by
    generalize args'.toList = l at h
    rcases l with _ | ⟨a, _ | ⟨b, _ | ⟨_, _⟩⟩⟩
    · simp at h
    · cases a <;> simp at h
    · cases a <;> first | (simp at h; done) | skip
      cases b <;> first | (simp at h; done) | skip
      rename_i p k n
      cases k <;> first | (simp at h; done) | skip
      cases n with
      | ofNat n => exact ⟨p, n, rfl⟩
      | negSucc n => simp at h
    · cases a <;> simp at h
  obtain ⟨p', n, hl⟩ := hcases
  rw [hl] at h
  obtain ⟨x, y, rfl, hx, hy⟩ := va_two ha hl
  cases hy
  have hbig : big = 70368744177664 := by simp [big]
  cases n with
  | zero =>
    simp only [Option.some.injEq, Prod.mk.injEq] at h
    obtain ⟨rfl, rfl⟩ := h
    refine SimV.still hR ⟨_, ?_, .string _⟩
    cases hx <;> exact Lib.run_unsafeString_none w pt it ty _
  | succ n =>
    cases hx with
    | pnil => simp at h
    | @ptr s off bi hk =>
      cases off with
      | succ m => simp at h
      | zero =>
        simp only at h
        cases hg : σ.get s with
        | none => rw [hg] at h; simp at h
        | some o =>
          rw [hg] at h
          cases o <;> first | (simp at h; done) | skip
          rename_i c e x f vr
          cases hu : E.P.underlying pt with
          | none => rw [hu] at h; simp at h
          | some d =>
            rw [hu] at h
            cases d <;> first | (simp at h; done) | skip
            rename_i u
            simp only at h
            cases hi : E.P.info? u with
            | none => rw [hi] at h; simp at h
            | some i =>
              rw [hi] at h
              simp only at h
              cases hb : (Nat.ble (n + 1) big && Nat.beq e u && Nat.beq i.size 1 && Nat.ble (n + 1) c.length && Nat.ble σ.b s) with
              | false => rw [hb] at h; simp at h
              | true =>
                rw [hb] at h
                simp only [cond_true] at h
                simp only [Bool.and_eq_true] at hb
                obtain ⟨⟨⟨⟨b1, b2⟩, b3⟩, b4⟩, b5⟩ := hb
                have b5 := Nat.le_of_ble_eq_true b5
                have b1 := Nat.le_of_ble_eq_true b1
                obtain rfl := Nat.eq_of_beq_eq_true b2
                have b3 := Nat.eq_of_beq_eq_true b3
                cases hbs : bytesOfList (c.take (n + 1)) with
                | none => rw [hbs] at h; simp at h
                | some bs =>
                  rw [hbs] at h
                  simp only [Option.some.injEq, Prod.mk.injEq] at h
                  obtain ⟨rfl, rfl⟩ := h
                  obtain ⟨cr, fr, g1, g2, g3, g4, g5, g6⟩ := hR.cont _ _ _ hk hg
                  have hd0 := hR.d0 _ _ hk b5
                  have har : AR κ ⟨bi.r, 0 + bi.d, none⟩ ⟨s, 0, none⟩ := ⟨bi, hk, rfl, rfl⟩
                  have hll : loadList σ ⟨s, 0, none⟩ (n + 1) = some (c.take (n + 1)) := by
                    unfold loadList
                    simp only [hg, Nat.zero_add, b4, cond_true, List.drop_zero]
                  have b4 := Nat.le_of_ble_eq_true b4
                  obtain ⟨l, hf, hlen, hc⟩ := loadList_rel hR har hll
                  rw [bytesOfList_spec hbs] at hf
                  have hll := hf.ints
                  subst hll
                  simp only [List.length_map] at hlen
                  have hcell1 : E.P.cellsOf e = 1 := by simp [Program.cellsOf, hi, b3]
                  have hsh : w.shape? bi.r = some (e, cr.size) := by simp [World.shape?, g1]
                  rw [hd0] at hc ⊢
                  have hrun := Lib.run_unsafeString_row (P := E.P) w pt it ty e hu hcell1 bi.r cr.size hsh bs (by intro h0; rw [h0] at hlen; simp at hlen) (by omega) (by omega) (fun j x hj => hc j _ (by simp [hj]))
                  rw [hlen] at hrun
                  have hf1 : (w.freeze ⟨bi.r, 0, none⟩ (n + 1)).heap[bi.r]? = some (.cells cr e (if fr.1 == fr.2 then (0, 0 + (n + 1)) else (min fr.1 0, max fr.2 (0 + (n + 1))))) := by
                    unfold World.freeze
                    rw [if_neg (by omega)]
                    simp only [Array.getElem?_modify, if_true, g1, Option.map_some]
                  obtain ⟨hR', hP'⟩ := hR.upd (w' := w.freeze ⟨bi.r, 0, none⟩ (n + 1)) (o' := .cells c e x true (vr + 1)) hk hg (v := vr) rfl (by intro u hu; simp only [Sh.ver, Option.some.injEq] at hu; omega)
                    (by unfold World.freeze; rw [if_neg (by omega)]; simp) (fun r hr => by unfold World.freeze; rw [if_neg (by omega)]; simp [Array.getElem?_modify, Ne.symm hr]) (by unfold World.freeze; rw [if_neg (by omega)]) (by unfold World.freeze; rw [if_neg (by omega)]) (by unfold World.freeze; rw [if_neg (by omega)])
                    ⟨cr, _, hf1, g2, g3, g4, g5, fun h => by cases h⟩ (.inl b5)
                  exact ⟨.string ⟨⟨bs⟩⟩, _, κ, hrun, .string _, hR', hP'⟩

theorem r_unsafeSliceData (hR : Rel κ σ w) {argTypes : Array TypeId} {ty : TypeId} {args args' : Array Value} {v' : Value} {σ' : SW} (ha : VA κ args args') (h : sunsafeSliceData args' σ = some (v', σ')) :
    SimV P κ σ w (Builtin.unsafeSliceData_ argTypes ty args) v' σ' := by
  unfold sunsafeSliceData at h
  have hcases : ∃ a l c, args'.toList = [.slice a l c] := by
    generalize args'.toList = l at h
    rcases l with _ | ⟨a, _ | ⟨_, _⟩⟩
    · simp at h
    · cases a <;> first | (simp at h; done) | exact ⟨_, _, _, rfl⟩
    · cases a <;> simp at h
  obtain ⟨a', l, c', hl⟩ := hcases
  rw [hl] at h
  obtain ⟨x, rfl, hx⟩ := va_one ha hl
  cases hx with
  | snil =>
    simp only [Option.some.injEq, Prod.mk.injEq] at h
    obtain ⟨rfl, rfl⟩ := h
    exact SimV.still hR ⟨_, rfl, .pnil⟩
  | @slice s off _ cap _ bi hk hle hbd =>
    cases l with
    | zero => simp at h
    | succ l =>
      simp only [Option.some.injEq, Prod.mk.injEq] at h
      obtain ⟨rfl, rfl⟩ := h
      exact SimV.still hR ⟨_, Lib.run_unsafeSliceData_row w argTypes ty _ _ cap (by omega), .ptr hk⟩
  | szero _ => simp at h

theorem r_cap (hR : Rel κ σ w) {argTypes : Array TypeId} {ty : TypeId} {args args' : Array Value} {v' : Value} {σ' : SW} (ha : VA κ args args') (h : scap args' σ = some (v', σ'))
    (hrun : (Builtin.cap_ argTypes ty #[.slice none 0 0]).run P w = .ok (.int .i64 0) w) : SimV P κ σ w (Builtin.cap_ argTypes ty args) v' σ' := by
  unfold scap at h
  have hcases : ∃ l c, args'.toList = [.slice none l c] := by
    generalize args'.toList = l at h
    rcases l with _ | ⟨a, _ | ⟨_, _⟩⟩
    · simp at h
    · cases a <;> first | (simp at h; done) | skip
      rename_i a _ _
      cases a <;> first | (simp at h; done) | exact ⟨_, _, rfl⟩
    · cases a <;> simp at h
  obtain ⟨l, c', hl⟩ := hcases
  rw [hl] at h
  obtain ⟨x, rfl, hx⟩ := va_one ha hl
  cases hx
  simp only [Option.some.injEq, Prod.mk.injEq] at h
  obtain ⟨rfl, rfl⟩ := h
  exact SimV.still hR ⟨_, hrun, .int _ _⟩

theorem r_range (hR : Rel κ σ w) {t : TypeId} {x x' v' : Value} {σ' : SW} (hx : V κ x x') (h : srange0 E t x' σ = some (v', σ')) : SimV E.P κ σ w (Instr.range t x) v' σ' := by
  unfold srange0 at h
  cases hu : E.P.underlying t with
  | none => rw [hu] at h; simp at h
  | some d =>
    rw [hu] at h
    cases d <;> first | (simp at h; done) | skip
    cases hx <;> first | (simp at h; done) | skip
    rename_i s
    simp only [Option.some.injEq, Prod.mk.injEq] at h
    obtain ⟨rfl, rfl⟩ := h
    obtain ⟨hR', hP'⟩ := hR.new (.iter s 0 0) (.stringIter s 0) ⟨w.heap.size, 0, 0⟩ rfl ⟨rfl, rfl⟩
    refine ⟨.pointer (some ⟨w.heap.size, 0, none⟩), _, _, ?_, ?_, hR', hP'⟩
    · simp [Instr.range, Sem.run_bind, r_under hu, Result.andThen, newObj, Sem.run]
    · exact .ptr (off := 0) (bi := ⟨w.heap.size, 0, 0⟩) (K.add_same _ _ _)

theorem r_next (hR : Rel κ σ w) {it it' v' : Value} {b : Bool} {t : TypeId} {σ' : SW} (hx : V κ it it') (h : snext it' b σ = some (v', σ')) : SimV P κ σ w (Instr.next it b t) v' σ' := by
  unfold snext at h
  cases hx <;> first | (simp at h; done) | skip
  rename_i s off bi hk
  cases off with
  | succ n => simp at h
  | zero =>
    cases b with
    | false => simp at h
    | true =>
      simp only at h
      cases hg : σ.get s with
      | none => rw [hg] at h; simp at h
      | some o =>
        rw [hg] at h
        cases o <;> first | (simp at h; done) | skip
        rename_i str pos vr
        simp only at h
        obtain ⟨hreal, hd0⟩ := hR.cont _ _ _ hk hg
        have hoff : 0 + bi.d = 0 := by omega
        rw [hoff]
        cases hlt : Nat.blt pos str.size with
        | false =>
          rw [hlt] at h
          simp only [cond_false, Option.some.injEq, Prod.mk.injEq] at h
          obtain ⟨rfl, rfl⟩ := h
          have hnlt : ¬ pos < str.size := by
            intro hh
            rw [← Nat.blt_eq] at hh
            rw [hh] at hlt; cases hlt
          refine SimV.still hR ⟨.tuple #[.bool false], ?_, .tuple' (.cons (.bool _) .nil)⟩
          simp [Instr.next, getObj, Sem.run, hreal, hnlt]
        | true =>
          rw [hlt] at h
          have hlt' : pos < str.size := by simpa [Nat.blt_eq] using hlt
          cases hdec : Utf8.decode str pos with
          | mk c width =>
            rw [hdec] at h
            simp only [cond_true, Option.some.injEq, Prod.mk.injEq] at h
            obtain ⟨rfl, rfl⟩ := h
            obtain ⟨hR', hP'⟩ := hR.upd (w' := w.putObj bi.r (.stringIter str (pos + width))) (o' := .iter str (pos + width) (vr + 1)) hk hg (v := vr) rfl (by intro u hu; simp only [Sh.ver, Option.some.injEq] at hu; omega)
              (heap_set_size _ _ _) (fun x hx => heap_set_ne _ _ hx) rfl rfl rfl ⟨heap_set_same _ _ (hR.dom _ _ hk).2, hd0⟩
            refine ⟨.tuple #[.bool true, .int .i64 pos, .int .i32 c], _, κ, ?_, .tuple' (.cons (.bool _) (.cons (.int _ _) (.cons (.int _ _) .nil))), hR', hP'⟩
            simp [Instr.next, getObj, setObj, Sem.run, hreal, hlt', hdec, Sem.run_bind, Result.andThen, goInt, World.putObj]
end
end Go.Sh

namespace Go.Sh
open Go

section
variable {P : Program} {E : Env} {κ : K} {σ : SW} {w : World}

theorem tr_goInt {κ : K} {n : Int} : TR P V κ (pure (goInt n)) (pure (goInt n)) := .pure (.int _ _)

theorem va_none {a a' : Array Value} (h : VA κ a a') {i : Nat} (hv : a'[i]? = none) : a[i]? = none := by
  have := h.size
  rw [Array.getElem?_eq_none_iff] at hv ⊢
  omega

theorem tr_len {ts : Array TypeId} {ty : TypeId} {args args' : Array Value} (h : VA κ args args') : TR P V κ (Builtin.len_ ts ty args) (Builtin.len_ ts ty args') := by
  unfold Builtin.len_
  cases hv : args'[0]? with
  | none => rw [va_none h hv]; cases ts[0]? <;> exact tr_stuckR
  | some x' =>
    obtain ⟨x, hx, hr⟩ := va_at h hv
    rw [hx]
    cases ts[0]? with
    | none => exact tr_stuckR
    | some t =>
      dsimp only
      refine TR.bind tr_underlying ?_
      rintro κ1 d _ hk ⟨rfl, hd⟩
      have hr := hr.mono hk
      cases d <;> cases hr <;> first
        | exact tr_stuckR
        | exact tr_goInt
        | (refine TR.bind tr_underlying ?_
           rintro κ2 d2 _ hk2 ⟨rfl, _⟩
           cases d2 <;> first | exact tr_stuckR | exact tr_goInt)
        | skip
      rename_i hb
      refine TR.bind (.getObj (R := NR) ⟨_, hb, rfl⟩ fun o o' ho => .pure ho) ?_
      intro κ2 o o' hk2 ho
      cases ho with
      | cells _ => exact tr_stuckR
      | iter _ _ => exact tr_stuckR
      | map hm =>
        have : ∀ (a b : Array MapEntry), F2 (ER κ2) a.toList b.toList → a.size = b.size := fun a b h => by simpa using h.length
        dsimp only
        rw [this _ _ hm]
        exact tr_goInt

def vlen : Value → Nat
  | .slice _ n _ => n
  | .string s => s.size
  | _ => 0

theorem tr_lenOf {v v' : Value} (h : V κ v v') : TR P (Eqs fun n => n = vlen v') κ (Builtin.lenOf v) (Builtin.lenOf v') := by
  cases h <;> first | exact tr_stuckR | exact .pure ⟨rfl, rfl⟩

theorem tr_firstCells {v v' : Value} (h : V κ v v') {sz n : Nat} (hn : n ≤ vlen v') : TR P VA κ (Builtin.firstCells sz n v) (Builtin.firstCells sz n v') := by
  cases h <;> first | exact tr_stuckR | skip
  · refine .pure ?_
    simp only [VA]
    generalize (ByteArray.extract _ 0 n).data = d
    rw [Array.toList_map]
    exact F2.mapSame _ _ _ fun b _ => V.int _ _
  · exact .pure .nil
  · rename_i hk _ _
    exact tr_loadCells (AR.of_ptr (.ptr hk)) _
  · simp only [vlen] at hn
    obtain rfl : n = 0 := by omega
    simp only [Builtin.firstCells, Nat.zero_mul]
    exact .pure .nil

theorem tr_copy {ts : Array TypeId} {ty : TypeId} {args args' : Array Value} (h : VA κ args args') : TR P V κ (Builtin.copy_ ts ty args) (Builtin.copy_ ts ty args') := by
  unfold Builtin.copy_
  cases hv0 : args'[0]? with
  | none => rw [va_none h hv0]; cases ts[0]? <;> exact tr_stuckR
  | some d' =>
    obtain ⟨d, hd, hrd⟩ := va_at h hv0
    rw [hd]
    cases hv1 : args'[1]? with
    | none => rw [va_none h hv1]; cases ts[0]? <;> exact tr_stuckR
    | some s' =>
      obtain ⟨s, hs, hrs⟩ := va_at h hv1
      rw [hs]
      cases ts[0]? with
      | none => exact tr_stuckR
      | some t =>
        dsimp only
        refine TR.bind tr_underlying ?_
        rintro κ1 de _ hk1 ⟨rfl, _⟩
        cases de <;> first | exact tr_stuckR | skip
        rename_i elem _
        dsimp only
        have hrd := hrd.mono hk1
        have hrs := hrs.mono hk1
        have core : ∀ (ba ba' : Option Addr) (dl : Nat), (∀ (n : Nat) (κ' : K) (c c' : Array Value), K.le κ1 κ' → VA κ' c c' → (n = 0 → c = #[] ∧ c' = #[]) → n ≤ dl →
              TR P V κ' (match ba with | some a => (do let _ ← storeCells a c.toList; pure (goInt n)) | none => pure (goInt n)) (match ba' with | some a => (do let _ ← storeCells a c'.toList; pure (goInt n)) | none => pure (goInt n))) →
            TR P V κ1 (do
              let l ← Builtin.lenOf s
              let sz ← sizeOf elem
              let cells ← Builtin.firstCells sz (Nat.min l dl) s
              match ba with | some a => (do let _ ← storeCells a cells.toList; pure (goInt (Nat.min l dl))) | none => pure (goInt (Nat.min l dl))) (do
              let l ← Builtin.lenOf s'
              let sz ← sizeOf elem
              let cells ← Builtin.firstCells sz (Nat.min l dl) s'
              match ba' with | some a => (do let _ ← storeCells a cells.toList; pure (goInt (Nat.min l dl))) | none => pure (goInt (Nat.min l dl))) := by
          intro ba ba' dl hst
          refine TR.bind (tr_lenOf hrs) ?_
          rintro κ2 l _ hk2 ⟨rfl, hl⟩
          refine TR.bind tr_sizeOf ?_
          rintro κ3 sz _ hk3 ⟨rfl, _⟩
          have hrs3 := hrs.mono (K.le_trans hk2 hk3)
          by_cases h0 : Nat.min l dl = 0
          · rw [h0]
            refine TR.bind (R := fun κ c c' => c = #[] ∧ c' = #[]) ?_ ?_
            · cases hrs3 <;> first
                | exact tr_stuckR
                | exact .pure ⟨rfl, rfl⟩
                | (simp only [Builtin.firstCells, Nat.zero_mul]; exact .pure ⟨rfl, rfl⟩)
                | (refine .pure ⟨?_, ?_⟩ <;> simp)
            · rintro κ4 c c' hk4 ⟨rfl, rfl⟩
              exact hst 0 κ4 #[] #[] (K.le_trans hk2 (K.le_trans hk3 hk4)) .nil (fun _ => ⟨rfl, rfl⟩) (Nat.zero_le _)
          · refine TR.bind (tr_firstCells hrs3 (by rw [hl]; exact Nat.min_le_left _ _)) ?_
            intro κ4 c c' hk4 hc
            exact hst (Nat.min l dl) κ4 c c' (K.le_trans hk2 (K.le_trans hk3 hk4)) hc (fun h => absurd h h0) (Nat.min_le_right _ _)
        cases hrd <;> first | exact tr_stuckR | skip
        · exact core none none 0 fun n κ' c c' _ _ _ _ => tr_goInt
        · rename_i hk _ _
          refine core (some _) (some _) _ fun n κ' c c' hle hc _ _ => TR.bind (tr_storeCells 0 (AR.of_ptr (.ptr (hle _ _ hk))) hc) ?_
          intro κ5 _ _ _ _
          exact tr_goInt
        · refine core (some _) (some _) 0 fun n κ' c c' hle hc h0 hn => ?_
          obtain ⟨rfl, rfl⟩ := h0 (by omega)
          exact tr_goInt

theorem tr_alloc {n : Nat} (hz : ZP P n) {t : TypeId} (ht : t < n) {old : Value} : TR P V κ (Instr.alloc t true old) (Instr.alloc t true old) := by
  unfold Instr.alloc
  refine TR.bind (tr_zeroValue hz ht) ?_
  rintro κ1 z _ hk ⟨rfl, hv⟩
  dsimp only
  refine TR.bind (tr_newVar hv) ?_
  intro κ2 a a' _ ha
  exact .pure ha.ptr
theorem tr_box {t : TypeId} {v v' : Value} (h : V κ v v') : TR P V κ (Instr.box t v) (Instr.box t v') := by
  unfold Instr.box
  refine TR.bind (tr_newVar h) ?_
  intro κ2 a a' _ ha
  exact .pure ha.ptr

theorem r_siface {t : TypeId} {x x' v' : Value} (hx : V κ x x') (h : siface E t x' = some v') : ∃ v, (Instr.makeInterface t x).run E.P w = .ok v w ∧ V κ v v' := by
  unfold siface at h
  cases hu : E.P.underlying t with
  | none => rw [hu] at h; simp at h
  | some d =>
    rw [hu] at h
    have h' : Value.iface t x' = v' ∧ ∀ ms, d ≠ .interface ms := by cases d <;> simp_all
    obtain ⟨rfl, hd⟩ := h'
    refine ⟨.iface t x, ?_, .iface hx⟩
    simp only [Instr.makeInterface, Sem.run_bind, r_under hu, Result.andThen]
    cases d <;> first | exact absurd rfl (hd _) | rfl

theorem r_failed (hz : ZP E.P E.nt) {t : TypeId} {ok : Bool} {v' : Value} (h : sfailed E t ok = some v') : ok = true ∧ ∃ z, (zeroValue t).run E.P w = .ok z w ∧ V κ (.tuple #[z, .bool false]) v' := by
  unfold sfailed at h
  obtain ⟨hnt, h⟩ := of_guard_lt h
  cases ok with
  | false => simp at h
  | true =>
    cases hi : E.P.info? t with
    | none => rw [hi] at h; simp at h
    | some i =>
      rw [hi] at h
      simp only at h
      cases hzz : i.zero with
      | none => rw [hzz] at h; simp at h
      | some z =>
        rw [hzz] at h
        simp only [Option.some.injEq] at h
        subst h
        exact ⟨rfl, z, r_zero hi hzz, .tuple' (.cons (hz t i z hnt hi hzz κ) (.cons (.bool _) .nil))⟩

theorem r_sassert (hz : ZP E.P E.nt) {t xt : TypeId} {ok : Bool} {x x' v' : Value} (hx : V κ x x') (h : sassert E x' t ok = some v') : ∃ v, (Instr.typeAssert x xt t ok).run E.P w = .ok v w ∧ V κ v v' := by
  unfold sassert at h
  have held : ∀ {u u' : Value}, V κ u u' → V κ (if ok = true then .tuple #[u, .bool true] else u) (sheld u' ok) := by
    intro u u' hu
    cases ok with
    | true => exact .tuple' (.cons hu (.cons (.bool _) .nil))
    | false => exact hu
  cases hu : E.P.underlying t with
  | none => rw [hu] at h; cases hx <;> simp at h
  | some d =>
    rw [hu] at h
    by_cases hd : ∃ ms, d = .interface ms
    · obtain ⟨ms, rfl⟩ := hd
      cases hx <;> first | (simp at h; done) | skip
      · rename_i dt u u' hv
        simp only at h
        cases hi : E.P.info? dt with
        | none => rw [hi] at h; simp at h
        | some i =>
          rw [hi] at h
          simp only at h
          cases hm : Instr.missingMethod ms i.methods with
          | none =>
            rw [hm] at h
            simp only [Option.some.injEq] at h
            subst h
            exact ⟨_, by simp [Instr.typeAssert, Sem.run_bind, r_under hu, r_info hi, hm, Result.andThen], held (.iface hv)⟩
          | some m =>
            rw [hm] at h
            obtain ⟨rfl, z, h1, h2⟩ := r_failed hz (w := w) (κ := κ) h
            exact ⟨_, by simp [Instr.typeAssert, Sem.run_bind, r_under hu, r_info hi, hm, h1, Result.andThen], h2⟩
      · obtain ⟨rfl, z, h1, h2⟩ := r_failed hz (w := w) (κ := κ) h
        exact ⟨_, by simp [Instr.typeAssert, Sem.run_bind, r_under hu, h1, Result.andThen], h2⟩
    · cases hx <;> first | (cases d <;> simp at h; done) | skip
      · rename_i dt u u' hv
        have h' : (match Nat.beq dt t with | true => some (sheld u' ok) | false => sfailed E t ok) = some v' := by
          cases d <;> first | exact absurd ⟨_, rfl⟩ hd | exact h
        cases hb : Nat.beq dt t with
        | true =>
          rw [hb] at h'
          simp only [Option.some.injEq] at h'
          subst h'
          obtain rfl := Nat.eq_of_beq_eq_true hb
          refine ⟨_, ?_, held hv⟩
          simp only [Instr.typeAssert, Sem.run_bind, r_under hu, Result.andThen]
          cases d <;> first | exact absurd ⟨_, rfl⟩ hd | simp
        | false =>
          rw [hb] at h'
          obtain ⟨rfl, z, h1, h2⟩ := r_failed hz (w := w) (κ := κ) h'
          have hne : ¬ dt = t := Nat.ne_of_beq_eq_false hb
          refine ⟨_, ?_, h2⟩
          simp only [Instr.typeAssert, Sem.run_bind, r_under hu, Result.andThen]
          cases d <;> first | exact absurd ⟨_, rfl⟩ hd | simp [hne, h1, Result.andThen]
      · have h' : sfailed E t ok = some v' := by
          cases d <;> first | exact absurd ⟨_, rfl⟩ hd | exact h
        obtain ⟨rfl, z, h1, h2⟩ := r_failed hz (w := w) (κ := κ) h'
        refine ⟨_, ?_, h2⟩
        simp only [Instr.typeAssert, Sem.run_bind, r_under hu, Result.andThen]
        cases d <;> first | exact absurd ⟨_, rfl⟩ hd | simp [h1, Result.andThen]
end
end Go.Sh

namespace Go.Sh
open Go

/-- What stands behind an extern. -/
def ExtOK (P : Program) (f : FuncId) (x : SExt) : Prop :=
  ∃ (fn : Func) (e : Array Value → Sem Value), P.funcs[f]? = some fn ∧ (fn.name == "runtime.NumGoroutine") = false ∧ fn.body.isNone = true ∧ Extern.findNext fn = none ∧ Extern.find fn = some e ∧
    match x with
    | .sem e' => ∀ κ args args', VA κ args args' → TR P V κ (e args) (e' args')
    | .makeNoZero elem => ∃ ps t, e = Extern.BytealgMakeNoZero.makeNoZero ps #[t] ∧ P.underlying t = some (.slice elem)

structure Good (E : Env) : Prop where
  zp : ZP E.P E.nt
  fp : FP E.P E.nt
  mixed : E.P.follows .mixedOrders = true
  num : ∀ (f : FuncId) (fn : Func), E.P.funcs[f]? = some fn → (fn.name == "runtime.NumGoroutine") = false
  ext : ∀ f x, E.ext f = some x → ExtOK E.P f x

/-- How a call ends. -/
def Got (κ : K) (σ : SW) (w : World) (v' : Value) (σ' : SW) : Ending → World → Prop :=
  fun e w2 => ∃ v κ', e = .returned v ∧ V κ' v v' ∧ Rel κ' σ' w2 ∧ Post κ κ' σ σ' w w2

/-- The codes' constants and globals stand. -/
def GK (E : Env) (κ : K) : Prop := ∀ (f : FuncId) (fn : Func) (c : Code), f < E.nf → E.P.funcs[f]? = some fn → fn.body = some c → CodeV κ c
theorem GK.mono {E : Env} {κ κ' : K} (h : GK E κ) (hk : K.le κ κ') : GK E κ' := fun f fn c h0 h1 h2 => (h f fn c h0 h1 h2).mono hk

structure CSim (E : Env) (C : SCall) : Prop where
  fn : ∀ κ σ w f args args' v' σ', GK E κ → Rel κ σ w → VA κ args args' → C (.fn f args') σ = some (v', σ') →
    (∃ (fn : Func) (c : Code), E.P.funcs[f]? = some fn ∧ fn.body = some c) ∧ CallsIn Fence.wide 0 E.P f args w (Got κ σ w v' σ')
  round : ∀ κ σ w l s args args' v' σ', GK E κ → Rel κ σ w → BR κ l s → VA κ args args' → C (.round s args') σ = some (v', σ') →
    ∃ f tmps as bd, (Instr.yield l args).run E.P w = .ok (.round l f tmps as bd) w ∧ RoundIn Fence.wide 0 E.P l f tmps as bd w (Got κ σ w v' σ')

/-- What an operation comes to. -/
def SimC (P : Program) (κ : K) (σ : SW) (w : World) (t : Sem Next) (v' : Value) (σ' : SW) : Prop :=
  ∃ r w1, t.run P w = .ok r w1 ∧ match r with
    | .value v => ∃ κ', V κ' v v' ∧ Rel κ' σ' w1 ∧ Post κ κ' σ σ' w w1
    | .skip => v' = undef ∧ ∃ κ', Rel κ' σ' w1 ∧ Post κ κ' σ σ' w w1
    | .enter f args => w1 = w ∧ CallsIn Fence.wide 0 P f args w (Got κ σ w v' σ')
    | .round l f tmps as bd => w1 = w ∧ RoundIn Fence.wide 0 P l f tmps as bd w (Got κ σ w v' σ')
    | _ => False

inductive NV (κ : K) : Next → Next → Prop
  | value {v v' : Value} : V κ v v' → NV κ (.value v) (.value v')

section
variable {P : Program} {E : Env} {κ : K} {σ : SW} {w : World}

theorem SimC.of_v {t : Sem Value} {v' : Value} {σ' : SW} (h : SimV P κ σ w t v' σ') : SimC P κ σ w (do pure (.value (← t))) v' σ' := by
  obtain ⟨v, w1, κ', h1, h2, h3, h4⟩ := h
  exact ⟨.value v, w1, by simp only [Sem.run_bind, h1, Result.andThen, Sem.run_pure], κ', h2, h3, h4⟩
theorem SimC.of_same {t t0 : Sem Next} {v' : Value} {σ' : SW} (h : SimC P κ σ w t0 v' σ') (he : t.run P w = t0.run P w) : SimC P κ σ w t v' σ' := by
  obtain ⟨r, w1, h1, h2⟩ := h
  exact ⟨r, w1, he.trans h1, h2⟩
theorem SimC.pure (hR : Rel κ σ w) {v v' : Value} (h : V κ v v') : SimC P κ σ w (Pure.pure (.value v)) v' σ :=
  ⟨.value v, w, rfl, κ, h, hR, Post.refl _ _ _⟩

theorem NV.of_TR {t t' : Sem Value} (h : TR P V κ t t') : TR P NV κ (do pure (.value (← t))) (do pure (.value (← t'))) :=
  TR.bind h fun _ _ _ _ hv => .pure (.value hv)

theorem SimC.of_TR (hR : Rel κ σ w) {t t' : Sem Next} (h : TR P NV κ t t') {v' : Value} {σ' : SW} (hs : (match srun P t' σ with | some (.value v, σ') => some (v, σ') | some (.skip, σ') => some (undef, σ') | _ => none) = some (v', σ')) :
    SimC P κ σ w t v' σ' := by
  cases hr : srun P t' σ with
  | none => rw [hr] at hs; simp at hs
  | some x =>
    obtain ⟨b, σ1⟩ := x
    obtain ⟨a, w1, κ', h1, h2, h3, h4⟩ := h.run σ w b σ1 hR hr
    rw [hr] at hs
    cases h2 with
    | value hv =>
      simp only [Option.some.injEq, Prod.mk.injEq] at hs
      obtain ⟨rfl, rfl⟩ := hs
      exact ⟨_, w1, h1, κ', hv, h3, h4⟩

theorem iblt_lt {x y : Int} : iblt x y = true ↔ x < y := by
  rw [iblt_eq]; simp

theorem r_len (hR : Rel κ σ w) {ts : Array TypeId} {ty : TypeId} {args args' : Array Value} {v' : Value} {σ' : SW} (ha : VA κ args args') (h : slen E ts args' σ = some (v', σ')) :
    SimV E.P κ σ w (Builtin.len_ ts ty args) v' σ' := by
  unfold slen at h
  cases ht : ts.toList with
  | nil => rw [ht] at h; simp at h
  | cons t tr =>
    cases hl : args'.toList with
    | nil => rw [ht, hl] at h; simp at h
    | cons x' l =>
      rw [ht, hl] at h
      simp only at h
      have h0 : ts[0]? = some t := by
        have : ts.toList[0]? = some t := by rw [ht]; rfl
        simpa using this
      have h1 : args'[0]? = some x' := by
        have : args'.toList[0]? = some x' := by rw [hl]; rfl
        simpa using this
      obtain ⟨x, hx, hr⟩ := va_at ha h1
      have fin : ∀ n : Nat, (v' = .int .i64 n ∧ σ' = σ) → (Builtin.len_ ts ty args).run E.P w = .ok (.int .i64 n) w → SimV E.P κ σ w (Builtin.len_ ts ty args) v' σ' := by
        rintro n ⟨rfl, rfl⟩ hrun
        exact SimV.still hR ⟨_, hrun, .int _ _⟩
      cases hu : E.P.underlying t with
      | none => rw [hu] at h; simp at h
      | some d =>
        rw [hu] at h
        have arr : ∀ n e, d = .array n e → SimV E.P κ σ w (Builtin.len_ ts ty args) v' σ' := by
          rintro n e rfl
          have h' : some (Value.int .i64 (n : Int), σ) = some (v', σ') := by cases hr <;> exact h
          simp only [Option.some.injEq, Prod.mk.injEq] at h'
          exact fin n ⟨h'.1.symm, h'.2.symm⟩ (by simp [Builtin.len_, h0, hx, r_under hu, Result.andThen, goInt])
        have ptr : ∀ u, d = .pointer u → SimV E.P κ σ w (Builtin.len_ ts ty args) v' σ' := by
          rintro u rfl
          have h' : (match E.P.underlying u with | some (.array n _) => some (Value.int .i64 (n : Int), σ) | _ => none) = some (v', σ') := by cases hr <;> exact h
          cases hu2 : E.P.underlying u with
          | none => rw [hu2] at h'; simp at h'
          | some d2 =>
            rw [hu2] at h'
            cases d2 <;> first | (simp at h'; done) | skip
            simp only [Option.some.injEq, Prod.mk.injEq] at h'
            exact fin _ ⟨h'.1.symm, h'.2.symm⟩ (by simp [Builtin.len_, h0, hx, r_under hu, r_under hu2, Result.andThen, goInt])
        cases d <;> first
          | exact arr _ _ rfl
          | exact ptr _ rfl
          | (cases hr <;> first
              | (simp at h; done)
              | (simp only [Option.some.injEq, Prod.mk.injEq] at h
                 exact fin _ ⟨h.1.symm, h.2.symm⟩ (by simp [Builtin.len_, h0, hx, r_under hu, Result.andThen, goInt])))

theorem r_builtin (hz : ZP E.P E.nt) (hR : Rel κ σ w) {b : Builtin} {ts : Array TypeId} {ty : TypeId} {cs : Array Bool} {args args' : Array Value} {v' : Value} {σ' : SW} (ha : VA κ args args')
    (h : sbuiltin E b ts ty cs args' σ = some (v', σ')) : SimC E.P κ σ w (builtin b ts ty cs args) v' σ' := by
  have gen : ∀ {t t' : Sem Value}, TR E.P V κ t t' → (match srun E.P (do pure (.value (← t'))) σ with | some (Next.value v, σ') => some (v, σ') | _ => none) = some (v', σ') → SimC E.P κ σ w (do pure (.value (← t))) v' σ' := by
    intro t t' ht hs
    refine SimC.of_TR hR (NV.of_TR ht) ?_
    cases hr : srun E.P (do let __do_lift ← t'; pure (Next.value __do_lift)) σ with
    | none => rw [hr] at hs; simp at hs
    | some x =>
      rw [hr] at hs
      obtain ⟨n, σ1⟩ := x
      cases n <;> first | (simp at hs; done) | exact hs
  cases b <;> simp only [sbuiltin] at h <;> first | (simp at h; done) | skip
  · exact SimC.of_v (r_append hz hR ha h)
  · cases ht : ts[0]? with
    | none => rw [ht] at h; simp at h
    | some t =>
      rw [ht] at h
      simp only [Option.bind_some] at h
      cases hu : E.P.underlying t with
      | none => rw [hu] at h; simp at h
      | some d =>
        rw [hu] at h
        cases d <;> first | (simp at h; done) | skip
        exact SimC.of_v (r_cap hR ha h (by simp [Builtin.cap_, ht, Sem.run_bind, r_under hu, Result.andThen, goInt]))
  · exact gen (tr_copy ha) h
  · exact SimC.of_v (r_len hR ha h)
  · cases hl : args'.toList with
    | nil => rw [hl] at h; simp at h
    | cons x1 l =>
      cases l with
      | nil => rw [hl] at h; cases x1 <;> simp at h
      | cons x2 l =>
        cases l with
        | cons _ _ => rw [hl] at h; cases x1 <;> cases x2 <;> simp at h
        | nil =>
          obtain ⟨u1, u2, rfl, h1, h2⟩ := va_two ha hl
          rw [hl] at h
          cases h1 <;> first | (simp at h; done) | skip
          cases h2 <;> first | (simp at h; done) | skip
          rename_i k x k2 y
          simp only [Option.some.injEq, Prod.mk.injEq] at h
          obtain ⟨rfl, rfl⟩ := h
          refine SimC.of_v (SimV.still hR ⟨.int k (if y > x then y else x), ?_, ?_⟩)
          · simp [Builtin.max_, Builtin.max2]
          · have e : (bif iblt x y then y else x) = if y > x then y else x := by
              cases hb : iblt x y with
              | true => have := iblt_lt.1 hb; simp [this]
              | false =>
                have : ¬ x < y := fun h => by rw [iblt_lt.2 h] at hb; cases hb
                simp [this]
            rw [e]; exact .int _ _
  · cases hl : args'.toList with
    | nil => rw [hl] at h; simp at h
    | cons x1 l =>
      cases l with
      | nil => rw [hl] at h; cases x1 <;> simp at h
      | cons x2 l =>
        cases l with
        | cons _ _ => rw [hl] at h; cases x1 <;> cases x2 <;> simp at h
        | nil =>
          obtain ⟨u1, u2, rfl, h1, h2⟩ := va_two ha hl
          rw [hl] at h
          cases h1 <;> first | (simp at h; done) | skip
          cases h2 <;> first | (simp at h; done) | skip
          rename_i k x k2 y
          simp only [Option.some.injEq, Prod.mk.injEq] at h
          obtain ⟨rfl, rfl⟩ := h
          refine SimC.of_v (SimV.still hR ⟨.int k (if y < x then y else x), ?_, ?_⟩)
          · simp [Builtin.min_, Builtin.min2]
          · have e : (bif iblt y x then y else x) = if y < x then y else x := by
              cases hb : iblt y x with
              | true => have := iblt_lt.1 hb; simp [this]
              | false =>
                have : ¬ y < x := fun h => by rw [iblt_lt.2 h] at hb; cases hb
                simp [this]
            rw [e]; exact .int _ _
  · exact SimC.of_v (r_unsafeSliceData hR ha h)
  · exact SimC.of_v (r_unsafeString hR ha h)

theorem r_ext (hR : Rel κ σ w) {f : FuncId} {x : SExt} (hx : ExtOK E.P f x) {args args' : Array Value} {v' : Value} {σ' : SW} (ha : VA κ args args') (h : sext E x args' σ = some (v', σ')) :
    SimC E.P κ σ w (callFunc f args) v' σ' := by
  obtain ⟨fn, e, hf, hname, hb, hn, he, hk⟩ := hx
  have hrun := run_callFunc_extern hf hname hb hn he args w
  have fin : SimV E.P κ σ w (e args) v' σ' → SimC E.P κ σ w (callFunc f args) v' σ' := by
    rintro ⟨v, w1, κ', h1, h2, h3, h4⟩
    rw [h1] at hrun
    exact ⟨_, _, hrun, κ', h2, h3, h4⟩
  cases x with
  | sem e' => exact fin (SimV.of_TR hR (hk κ args args' ha) h)
  | makeNoZero elem =>
    obtain ⟨ps, t, rfl, ht⟩ := hk
    simp only [sext] at h
    cases hl : args'.toList with
    | nil => rw [hl] at h; simp at h
    | cons x1 l =>
      cases l with
      | cons _ _ => rw [hl] at h; cases x1 <;> first | (simp at h; done) | (rename_i k n; cases k <;> simp at h)
      | nil =>
        obtain ⟨u, rfl, hu⟩ := va_one ha hl
        rw [hl] at h
        cases hu <;> first | (simp at h; done) | skip
        rename_i k n
        cases k <;> first | (simp at h; done) | skip
        simp only at h
        cases hb2 : (decide (0 ≤ n) && decide (n ≤ (big : Int))) with
        | false => rw [hb2] at h; simp at h
        | true =>
          rw [hb2] at h
          simp only [cond_true, Option.some.injEq, Prod.mk.injEq] at h
          obtain ⟨rfl, rfl⟩ := h
          simp only [Bool.and_eq_true, decide_eq_true_eq] at hb2
          have hbig : big = 70368744177664 := by simp [big]
          obtain ⟨m, rfl⟩ := Int.eq_ofNat_of_zero_le hb2.1
          obtain ⟨cs, hr, hle, _, _⟩ := Lib.run_makeNoZero_cap (P := E.P) w ps t elem ht m (by rw [hbig] at hb2; omega)
          obtain ⟨hR', hP'⟩ := (hR.of_heap (w' := w.drew.drew) rfl).new (.cells [] elem false false 0) (.cells cs elem) ⟨w.heap.size, 0, cs.size⟩ rfl
            ⟨cs, (0, 0), rfl, rfl, by simp, by simp; exact .nil, (fun h => by cases h), fun _ => .inl rfl⟩
          refine fin ⟨_, _, _, hr, ?_, hR', Post.of_heap (w2 := w.drew.drew) rfl rfl rfl rfl hP'⟩
          have := V.slice (κ := κ.add σ.n ⟨w.heap.size, 0, cs.size⟩) (s := σ.n) (off := 0) (len := m) (cap := cs.size) (e := 1) (K.add_same _ _ _) hle (.inr (by simp))
          simpa using this

theorem r_func (G : Good E) {C : SCall} (hC : CSim E C) (hK : GK E κ) (hR : Rel κ σ w) {f : FuncId} {args args' : Array Value} {v' : Value} {σ' : SW} (ha : VA κ args args') (h : sfunc E C f args' σ = some (v', σ')) :
    SimC E.P κ σ w (callFunc f args) v' σ' := by
  unfold sfunc at h
  cases hx : E.ext f with
  | some x => rw [hx] at h; exact r_ext hR (G.ext f x hx) ha h
  | none =>
    rw [hx] at h
    obtain ⟨⟨fn, c, hf, hb⟩, hcall⟩ := hC.fn κ σ w f args args' v' σ' hK hR ha h
    have hname : fn.name ≠ "runtime.NumGoroutine" := by simpa using G.num f fn hf
    refine ⟨.enter f args, w, ?_, rfl, hcall⟩
    simp [callFunc, hf, hname, hb, Sem.run_bind, Result.andThen]

theorem r_method (G : Good E) {C : SCall} (hC : CSim E C) (hK : GK E κ) (hR : Rel κ σ w) {recv recv' : Value} {name : String} {args args' : Array Value} {v' : Value} {σ' : SW} (hr : V κ recv recv') (ha : VA κ args args')
    (h : smethod E C recv' name args' σ = some (v', σ')) : SimC E.P κ σ w (callMethod recv name args) v' σ' := by
  unfold smethod at h
  cases hr <;> first | (simp at h; done) | skip
  rename_i t u u' hu
  simp only at h
  cases hi : E.P.info? t with
  | none => rw [hi] at h; simp at h
  | some i =>
    cases hd : E.P.underlying t with
    | none => rw [hi, hd] at h; simp at h
    | some d =>
      rw [hi, hd] at h
      simp only at h
      cases hm : i.methods.find? (·.name == name) with
      | none => rw [hm] at h; simp at h
      | some m =>
        rw [hm] at h
        simp only at h
        cases hp : m.path.toList with
        | cons _ _ => rw [hp] at h; simp at h
        | nil =>
          rw [hp] at h
          cases hfm : m.func with
          | none => rw [hfm] at h; simp at h
          | some fb =>
            obtain ⟨f, b⟩ := fb
            rw [hfm] at h
            have key : sfunc E C f ⟨u' :: args'.toList⟩ σ = some (v', σ') ∧ ∀ wr, (receiverAt t (.val u) b wr).run E.P w = .ok u w := by
              cases b <;> cases d <;> first
                | (simp at h; done)
                | exact ⟨h, fun wr => by simp [receiverAt, Sem.run_bind, r_under hd, Result.andThen, Place.get]⟩
            have hrun : (callMethod (.iface t u) name args).run E.P w = (callFunc f (#[u] ++ args)).run E.P w := by
              have hsz : E.P.types.size + Made.depth = (E.P.types.size + (Made.depth - 1)) + 1 := by
                have : Made.depth ≠ 0 := by decide
                omega
              simp [callMethod, Sem.run_bind, program, Sem.run, Result.andThen, hsz, method, r_info hi, hm, hp, follow, hfm, key.2]
            refine SimC.of_same (r_func G hC hK hR (args' := ⟨u' :: args'.toList⟩) ?_ key.1) hrun
            simp only [VA, Array.toList_append]
            exact .cons hu ha

theorem F2.filterMap' {l : List Operand} {f g : Operand → Value} (h : ∀ x ∈ l, V κ (f x) (g x)) : F2 (V κ) (l.map f) (l.map g) := F2.mapSame l f g h
end
end Go.Sh
