/- The abstract layer, part M: append and make. -/
import Derived.Test.YtngmfimpaembnaaGreatDoorIsoK
namespace Go.Iso
open Go Go.RowKit
set_option linter.unusedSimpArgs false
set_option linter.unusedVariables false
section
variable {P : Program} {G : Nat → V} {σ σ' : Heap} {ρ ρ' : Nat → Option Nat} {I I' : Nat → Prop} {w w' : World} {a : Act}
def bytOf (P : Program) (t : TypeId) : Option Nat := (P.info? t).map (·.bytes)
theorem run_bytOf {t : TypeId} {n : Nat} (h : bytOf P t = some n) : ∃ i, (∀ w, (typeInfo t).run P w = .ok i w) ∧ i.bytes = n := by
  unfold bytOf at h
  cases hi : P.info? t with
  | none => simp [hi] at h
  | some i => simp only [hi, Option.map_some, Option.some.injEq] at h; exact ⟨i, fun w => by simp [typeInfo, hi], h⟩
def srcRows (σ : Heap) : V → Option (List (List V))
  | .d (.sl ys) => some (ys.map (·.map .d))
  | .d (.val (.slice none 0 0)) => some []
  | .msl o k off len => match σ o with
    | some x => if x.k = k ∧ off + len ≤ x.rows.length then some ((x.rows.drop off).take len) else none
    | none => none
  | _ => none
theorem loadF {b off cnt : Nat} {F : Nat → Value} (hw : w'.heap = w.heap) (h : ∀ j, j < cnt → w.cell? ⟨b, off + j, none⟩ = some (F j)) : (loadCells ⟨b, off, none⟩ cnt).run P w' = .ok ((List.range cnt).map F).toArray w' :=
  run_loadCells w' ⟨b, off, none⟩ cnt F fun j hj => by
    rw [add_addr]
    have : w'.cell? ⟨b, off + j, none⟩ = w.cell? ⟨b, off + j, none⟩ := by simp only [World.cell?, hw]
    rw [this]; exact h j hj
theorem rangeF_getD {cnt : Nat} {F : Nat → Value} {i : Nat} (h : i < cnt) : (((List.range cnt).map F).toArray).getD i undef = F i := by
  simp [Array.getD_eq_getD_getElem?, h]
theorem blk_cell {b : Nat} {c : Array Value} {e : TypeId} (h : Blk w b c e) {j : Nat} (hj : j < c.size) : w.cell? ⟨b, j, none⟩ = some (c.getD j undef) := by
  have h' : w.heap[b]? = some (Go.Obj.cells c e (0, 0)) := h
  simp [World.cell?, h', Array.getD_eq_getD_getElem?, hj]
theorem run_src [Glb] (hh : HeapOk σ ρ I w) {v : V} {c : Value} {rows : List (List V)} {n : Nat} (hn0 : n ≠ 0) (h : RepV ρ I w v c) (hs : srcRows σ v = some rows) (hl : ∀ r ∈ rows, r.length = n) :
    ∃ arr, (∀ w' : World, w'.heap = w.heap → (Builtin.firstCells n rows.length c).run P w' = .ok arr w') ∧ (Builtin.lenOf c).run P w = .ok rows.length w ∧ arr.size = rows.length * n ∧ ArrRep ρ I w n rows arr := by
  have empty : ∀ {arr : Array Value}, ArrRep ρ I w n [] arr := ⟨by simp, fun i hi => absurd hi (by simp), fun i hi => absurd hi (by simp)⟩
  cases v with
  | d x =>
    cases x with
    | sl ys =>
      simp only [srcRows, Option.some.injEq] at hs; subst hs
      have hd := h.toD rfl
      generalize hxs : D.sl ys = X at hd
      cases hd with
      | val c hc => cases hxs
      | nil ad cap =>
        cases hxs
        refine ⟨#[], fun w' _ => ?_, by simp [Builtin.lenOf], by simp, empty⟩
        cases ad <;> simp [Builtin.firstCells, loadCells, loadCellsFrom]
      | sl b off cap k xs f hI hc hm hk hf hr =>
        cases hxs
        by_cases h0 : ys.length = 0
        · have : ys = [] := List.eq_nil_of_length_eq_zero h0
          subst this
          exact ⟨#[], fun w' _ => by simp [Builtin.firstCells, loadCells, loadCellsFrom], by simp [Builtin.lenOf], by simp, empty⟩
        · have hkn : k = n := by
            have h1 : 0 < ys.length := by omega
            have := hl (ys[0].map .d) (List.mem_map_of_mem (List.getElem_mem h1))
            rw [List.length_map] at this
            rw [← hk ys[0] (List.getElem_mem h1)]; exact this
          subst hkn
          have hrow : ∀ i (hi : i < ys.length), ys[i].length = k := fun i hi => hk _ (List.getElem_mem hi)
          let F : Nat → Value := fun j => f (j / k) (j % k)
          have hF : ∀ j, j < ys.length * k → w.cell? ⟨b, off + j, none⟩ = some (F j) := fun j hj => by
            have h1 : j / k < ys.length := Nat.div_lt_of_lt_mul (by rw [Nat.mul_comm]; exact hj)
            have h2 : j % k < k := Nat.mod_lt _ (by omega)
            have := hf (j / k) (j % k) h1 (by rw [hrow _ h1]; exact h2)
            rw [show off + j = off + j / k * k + j % k by rw [Nat.add_assoc, Nat.div_add_mod' j k]]
            exact this
          refine ⟨((List.range (ys.length * k)).map F).toArray, fun w' hw => by simp [Builtin.firstCells, loadF hw hF], by simp [Builtin.lenOf], by simp, by simp, fun i hi => by simp at hi ⊢; exact hrow i hi, fun i hi j hj => ?_⟩
          simp only [List.length_map] at hi
          simp only [List.getElem_map, List.length_map] at hj ⊢
          have hj' : j < k := by rw [← hrow i hi]; exact hj
          have hlt : i * k + j < ys.length * k := by
            have : (i + 1) * k ≤ ys.length * k := Nat.mul_le_mul_right _ hi
            rw [Nat.add_mul, Nat.one_mul] at this; omega
          rw [rangeF_getD hlt]
          have e1 : (i * k + j) / k = i := by rw [Nat.mul_comm, Nat.mul_add_div (by omega), Nat.div_eq_of_lt hj', Nat.add_zero]
          have e2 : (i * k + j) % k = j := by rw [Nat.add_comm, Nat.add_mul_mod_self_right, Nat.mod_eq_of_lt hj']
          simp only [F, e1, e2]
          exact .d (hr i j hi hj)
    | val c' =>
      have he := h.val rfl
      subst he
      unfold srcRows at hs
      split at hs
      · next e => cases e
      · next e => cases e; cases hs; exact ⟨#[], fun w' _ => by simp [Builtin.firstCells], by simp [Builtin.lenOf], by simp, empty⟩
      · next e => cases e
      · cases hs
  | msl o k off len =>
    simp only [srcRows] at hs
    split at hs
    · next x hx =>
      split at hs
      · next hc =>
        cases hs
        obtain ⟨rfl, hle⟩ := hc
        obtain ⟨b, cap, cs, el, hb, hblk, hsz, hcap, hm, rfl⟩ := h.toMsl rfl
        obtain ⟨c', e', hblk', hnI, hA⟩ := hh.arr hx hb
        have hlen : ((x.rows.drop off).take len).length = len := by simp; omega
        by_cases h0 : len = 0
        · subst h0
          refine ⟨#[], fun w' _ => by simp [Builtin.firstCells, loadCells, loadCellsFrom], by simp [Builtin.lenOf], by simp, ?_⟩
          simpa using (empty (arr := #[]))
        have hkn : x.k = n := by
          have h1 : off < x.rows.length := by omega
          rw [← hA.row off h1]
          exact hl _ (by
            rw [List.mem_iff_getElem]
            exact ⟨0, by rw [hlen]; omega, by simp⟩)
        subst hkn
        have hlt : ∀ i, i < len * x.k → off * x.k + i < c'.size := fun i hi => by
          have h1 : (off + len) * x.k ≤ x.rows.length * x.k := Nat.mul_le_mul_right _ hle
          rw [Nat.add_mul] at h1
          have := hA.size; omega
        refine ⟨((List.range (len * x.k)).map fun j => c'.getD (off * x.k + j) undef).toArray, fun w' hw => ?_, by simp [Builtin.lenOf, hlen], by simp [hlen], ?_⟩
        · simp only [Builtin.firstCells, hlen]
          exact loadF hw fun j hj => blk_cell hblk' (hlt j hj)
        · refine ⟨by simp [hlen], fun i hi => ?_, fun i hi j hj => ?_⟩
          · rw [List.getElem_take, List.getElem_drop]; exact hA.row _ _
          · rw [hlen] at hi
            simp only [List.getElem_take, List.getElem_drop] at hj ⊢
            have h1 : off + i < x.rows.length := by omega
            have hj' : j < x.k := by rw [← hA.row _ h1]; exact hj
            have h2 : i * x.k + j < len * x.k := by
              have : (i + 1) * x.k ≤ len * x.k := Nat.mul_le_mul_right _ hi
              rw [Nat.add_mul, Nat.one_mul] at this; omega
            rw [rangeF_getD h2, ← Nat.add_assoc, ← Nat.add_mul]
            exact hA.rep _ h1 j hj
      · cases hs
    · cases hs
  | _ => simp [srcRows] at hs
theorem growBy_le (newLen : Nat) : ∀ (r c : Nat), c < newLen → Builtin.growBy newLen r c ≤ newLen + (newLen + 768) / 4
  | 0, c, h => by simp only [Builtin.growBy]; omega
  | r + 1, c, h => by
    simp only [Builtin.growBy]
    split
    · omega
    · rcases Nat.lt_or_ge (c + (c + 768) / 4) newLen with h1 | h1
      · exact growBy_le newLen r _ h1
      · have : Builtin.growBy newLen r (c + (c + 768) / 4) = c + (c + 768) / 4 := by
          cases r with
          | zero => rfl
          | succ r => simp only [Builtin.growBy]; rw [if_pos h1]
        rw [this]; omega
theorem nextcap_le {need cap : Nat} (h : cap < need) : Builtin.nextslicecap need cap ≤ 2 * need + 1000 := by
  unfold Builtin.nextslicecap
  split
  · omega
  · split
    · omega
    · have := growBy_le need 4 cap h; omega
theorem zeroCells_size {z : Array Value} {n : Nat} : (Builtin.zeroCells z n).size = n * z.size := by simp [Builtin.zeroCells]
def seqT (P : Program) (t : TypeId) : Bool := match P.underlying t with | some (.slice _) | some .string => true | _ => false
theorem run_seqT {t : TypeId} (h : seqT P t = true) : ∃ d, P.underlying t = some d ∧ (∀ k, d ≠ .int k) := by
  unfold seqT at h
  split at h
  · next e he => exact ⟨_, he, fun k h => by cases h⟩
  · next he => exact ⟨_, he, fun k h => by cases h⟩
  · cases h
theorem ArrRep.append {n : Nat} {r1 r2 : List (List V)} {c1 c2 c3 : Array Value} (h1 : ArrRep ρ I w n r1 c1) (h2 : ArrRep ρ I w n r2 c2) (hs : c1.size = r1.length * n) : ArrRep ρ I w n (r1 ++ r2) (c1 ++ c2 ++ c3) where
  size := by have := h2.size; simp [Nat.add_mul]; omega
  row := fun i hi => by
    rcases Nat.lt_or_ge i r1.length with h | h
    · rw [List.getElem_append_left h]; exact h1.row i h
    · rw [List.getElem_append_right h]; exact h2.row _ _
  rep := fun i hi j hj => by
    rcases Nat.lt_or_ge i r1.length with h | h
    · simp only [List.getElem_append_left h] at hj ⊢
      have hk := h1.row i h
      have hlt : i * n + j < c1.size := by
        have : (i + 1) * n ≤ r1.length * n := Nat.mul_le_mul_right _ h
        rw [Nat.add_mul, Nat.one_mul] at this; omega
      have := h1.rep i h j hj
      rw [Array.getD_eq_getD_getElem?] at this ⊢
      rw [Array.append_assoc, Array.getElem?_append, if_pos hlt]; exact this
    · simp only [List.getElem_append_right h] at hj ⊢
      have h' : i - r1.length < r2.length := by simp at hi; omega
      have hk := h2.row _ h'
      have hge : (i - r1.length) * n + j + r1.length * n = i * n + j := by
        have : (i - r1.length) * n + r1.length * n = i * n := by rw [← Nat.add_mul]; congr 1; omega
        omega
      have hlt : (i - r1.length) * n + j < c2.size := by
        have : (i - r1.length + 1) * n ≤ r2.length * n := Nat.mul_le_mul_right _ h'
        rw [Nat.add_mul, Nat.one_mul] at this
        have := h2.size; omega
      have := h2.rep _ h' j hj
      rw [Array.getD_eq_getD_getElem?] at this ⊢
      rw [Array.append_assoc, Array.getElem?_append, if_neg (by omega), Array.getElem?_append, if_pos (by omega), show i * n + j - c1.size = (i - r1.length) * n + j by omega]
      exact this
theorem run_append_new {t t2 ty e : TypeId} {n byt sLen sCap m : Nat} {z : Value} {s x : Value} {base : Option Addr} {arr0 arr : Array Value} (hs : s = .slice base sLen sCap) (he : elOf P t = some e) (hn : szOf P e = some n) (hb : bytOf P e = some byt) (hz : zOf P e = some z) (hb0 : byt ≠ 0)
    (ht2 : seqT P t2 = true) (hlen : (Builtin.lenOf x).run P w = .ok m w) (hgt : sCap < sLen + m) (hbnd : (2 * (sLen + m) + 1000) * byt ≤ 2 ^ 48)
    (hold : ∀ w' : World, w'.heap = w.heap → (Builtin.firstCells n sLen s).run P w' = .ok arr0 w') (hnew : ∀ w' : World, w'.heap = w.heap → (Builtin.firstCells n m x).run P w' = .ok arr w') :
    ∃ newCap d, sLen + m ≤ newCap ∧ newCap ≤ 9223372036854775807 ∧ (Builtin.append_ #[t, t2] ty #[s, x]).run P w = .ok (.slice (some ⟨w.heap.size, 0, none⟩) (sLen + m) newCap) { w with heap := w.heap.push (.cells (arr0 ++ arr ++ Builtin.zeroCells z.cells (newCap - (sLen + m))) e), drawn := d } := by
  obtain ⟨d2, hd2, hd3⟩ := run_seqT ht2
  obtain ⟨ti, hti, hti2⟩ := run_bytOf hb
  have hnc : Builtin.nextslicecap (sLen + m) sCap * byt ≤ 2 ^ 48 := Nat.le_trans (Nat.mul_le_mul_right _ (nextcap_le hgt)) hbnd
  have hneed : sLen + m < 2 ^ 47 := by
    have h1 : (2 * (sLen + m) + 1000) * 1 ≤ (2 * (sLen + m) + 1000) * byt := Nat.mul_le_mul_left _ (by omega)
    omega
  let q : Question := .appendCap (sLen + m) sCap e
  let newCap := q.cut (w.tape w.drawn q)
  have hcut : newCap = sLen + m + w.tape w.drawn q % (2 ^ 63 - (sLen + m)) := rfl
  have hmod : w.tape w.drawn q % (2 ^ 63 - (sLen + m)) < 2 ^ 63 - (sLen + m) := Nat.mod_lt _ (by omega)
  refine ⟨newCap, w.drawn + 1, by omega, by omega, ?_⟩
  subst hs
  have h1 := hold { w with drawn := w.drawn + 1 } rfl
  have h2 := hnew { w with drawn := w.drawn + 1 } rfl
  have hf : q.forced = false := rfl
  unfold Builtin.append_
  simp only [List.getElem?_toArray, List.getElem?_cons_zero, List.getElem?_cons_succ, Sem.run_bind, run_underlying (run_elOf he), Result.andThen_ok, run_szOf hn, Sem.run_pure, run_underlying hd2]
  cases d2
  case int k => exact absurd rfl (hd3 k)
  all_goals
    simp only [Bool.false_eq_true, if_false, hlen, Result.andThen_ok, Sem.run_bind, Bool.not_false, if_true]
    rw [if_neg (by omega)]
    simp only [Sem.run_bind, hti, Result.andThen_ok, hti2]
    rw [if_neg (fun h => h.2.elim (fun h => h) hb0)]
    simp only [Sem.run_bind, hti, Result.andThen_ok, hti2]
    rw [if_neg (by omega)]
    simp only [Sem.run_bind, run_choose, hf, Bool.false_eq_true, if_false, Result.andThen_ok, run_askRoom, hti, h1, h2, run_zOf hz, newRow, run_newObj, Sem.run_pure]
    have hf' : (Question.appendCap (sLen + m) sCap e).forced = false := rfl
    simp only [hf', Bool.false_eq_true, if_false, Result.andThen_ok, h1, h2]
    rfl
theorem run_append_in {t t2 ty e : TypeId} {n sLen sCap m b off : Nat} {x : Value} {arr c : Array Value} {el : TypeId} (he : elOf P t = some e) (hn : szOf P e = some n) (ht2 : seqT P t2 = true) (hlen : (Builtin.lenOf x).run P w = .ok m w) (hle : sLen + m ≤ sCap)
    (hnew : (Builtin.firstCells n m x).run P w = .ok arr w) (hblk : Blk w b c el) (hsz : off + sLen * n + arr.size ≤ c.size) (h1 : ∀ v ∈ arr.toList, v.oneCell' = true) :
    (Builtin.append_ #[t, t2] ty #[.slice (some ⟨b, off, none⟩) sLen sCap, x]).run P w = .ok (.slice (some ⟨b, off, none⟩) (sLen + m) sCap)
      (w.setRow b (c.toList.take (off + sLen * n) ++ arr.toList ++ c.toList.drop (off + sLen * n + arr.toList.length)).toArray) := by
  obtain ⟨d2, hd2, hd3⟩ := run_seqT ht2
  have hst := run_storeCells_at (P := P) b (off + sLen * n) el arr.toList 0 c w hblk (by simpa using hsz) h1
  rw [Nat.add_zero] at hst
  unfold Builtin.append_
  simp only [List.getElem?_toArray, List.getElem?_cons_zero, List.getElem?_cons_succ, Sem.run_bind, run_underlying (run_elOf he), Result.andThen_ok, run_szOf hn, Sem.run_pure, run_underlying hd2]
  cases d2
  case int k => exact absurd rfl (hd3 k)
  all_goals
    simp only [Bool.false_eq_true, if_false, hlen, Result.andThen_ok, Sem.run_bind, Bool.not_false, if_true]
    rw [if_pos hle]
    simp only [Sem.run_bind, hnew, Result.andThen_ok, add_addr, hst, Sem.run_pure]
abbrev appendOp (x y : Operand) (t t2 : TypeId) : Op := .call { callee := .builtin .append, args := #[x, y], argTypes := #[t, t2] }
theorem exec_append {o : Oper} {x y : Operand} {t t2 : TypeId} (ho : o.op = appendOp x y t t2) : (execOp a.eval o).run P w = ((Builtin.append_ #[t, t2] o.type #[a.eval x, a.eval y]).run P w).andThen fun v w' => .ok (.value v) w' := by
  simp only [execOp, ho, resolve, invoke, builtin, pure_bind, Sem.run_bind]
  simp
def RowsOne (rows : List (List V)) : Prop := ∀ r ∈ rows, ∀ v ∈ r, v.one = true
theorem ArrRep.ones {n : Nat} {rows : List (List V)} {arr : Array Value} (h : ArrRep ρ I w n rows arr) (hs : arr.size = rows.length * n) (h1 : RowsOne rows) : ∀ v ∈ arr.toList, v.oneCell' = true := by
  intro v hv
  obtain ⟨m, hm, rfl⟩ := List.getElem_of_mem hv
  simp only [Array.length_toList] at hm
  have hn : 0 < n := by
    rcases Nat.eq_zero_or_pos n with h0 | h0
    · subst h0; omega
    · exact h0
  have h2 : m / n < rows.length := Nat.div_lt_of_lt_mul (by rw [Nat.mul_comm]; omega)
  have h3 : m % n < rows[m / n].length := by rw [h.row _ h2]; exact Nat.mod_lt _ hn
  have := (h.rep (m / n) h2 (m % n) h3).one (h1 _ (List.getElem_mem h2) _ (List.getElem_mem h3))
  rw [Nat.div_add_mod', Array.getD_eq_getD_getElem?, Array.getElem?_eq_getElem hm] at this
  simpa using this
theorem ArrRep.take {n : Nat} {rows : List (List V)} {c : Array Value} (h : ArrRep ρ I w n rows c) : ArrRep ρ I w n rows (c.toList.take (rows.length * n)).toArray where
  size := by have := h.size; simp; omega
  row := h.row
  rep := fun i hi j hj => by
    have hlt : i * n + j < rows.length * n := by
      have h1 : (i + 1) * n ≤ rows.length * n := Nat.mul_le_mul_right _ hi
      rw [Nat.add_mul, Nat.one_mul] at h1
      have := h.row i hi; omega
    have := h.rep i hi j hj
    rw [Array.getD_eq_getD_getElem?] at this ⊢
    simpa [List.getElem?_take, hlt] using this
theorem zsize {z : Value} {e n : Nat} (hz : zOf P e = some z) (hk : rowOk (constV z) = true) (hkl : (toRow (constV z)).length = n) : z.cells.size = n :=
  ((constV_rep (ρ := fun _ => none) (I := fun _ => False) (w := default) z).row (rowOk_or hk)).1.trans hkl
theorem OpW.append [Glb] {x y : Operand} {t t2 e : TypeId} {o n len byt : Nat} {ow : Own} {z : Value} {src : List (List V)} {N id : Nat} (hx : evO G x = .msl o n 0 len) (hσ : σ o = some ow) (hk : ow.k = n) (hlen : ow.rows.length = len)
    (he : elOf P t = some e) (hn : szOf P e = some n) (hn0 : n ≠ 0) (hb : bytOf P e = some byt) (hb0 : byt ≠ 0) (hz : zOf P e = some z) (hzk : rowOk (constV z) = true) (hzl : (toRow (constV z)).length = n) (ht2 : seqT P t2 = true)
    (hs : srcRows σ (evO G y) = some src) (hl : ∀ r ∈ src, r.length = n) (h1 : RowsOne src) (hbnd : (2 * (len + src.length) + 1000) * byt ≤ 2 ^ 48) :
    OpW P (appendOp x y t t2) G σ N id (.msl id n 0 (len + src.length)) (upd (del σ o) id (some ⟨n, ow.rows ++ src⟩)) :=
  .of_value fun op ho ρ I a w hh hid hg => by
    subst hk
    obtain ⟨b, cap, cs, el, hρ, hblk, hcs, hcap, hmax, hxv⟩ := (evO_rep hg (x := x) (by simp [appendOp, Op.operands, Call.operands])).toMsl hx
    obtain ⟨arr, hfc, hlo, has, hA⟩ := run_src (P := P) hh hn0 (evO_rep hg (x := y) (by simp [appendOp, Op.operands, Call.operands])) hs hl
    obtain ⟨c, e', hblk', hnI, hA0⟩ := hh.arr hσ hρ
    have hcc : cs = c ∧ el = e' := by
      unfold Blk at hblk hblk'; rw [hblk] at hblk'; cases hblk'; exact ⟨rfl, rfl⟩
    obtain ⟨rfl, rfl⟩ := hcc
    have hrl : ow.rows.length * ow.k = len * ow.k := by rw [hlen]
    have hdel : ∀ m y, del σ o m = some y → σ m = some y := fun m y h => by
      by_cases hm : m = o
      · simp [del, hm] at h
      · simpa [del, hm] using h
    by_cases hfit : len + src.length ≤ cap
    · have hle2 : (len + src.length) * ow.k ≤ cap * ow.k := Nat.mul_le_mul_right _ hfit
      rw [Nat.add_mul] at hle2
      rw [Nat.zero_add] at hcs
      have hrun := run_append_in (P := P) (ty := op.type) (n := ow.k) (off := 0) he hn ht2 hlo hfit (hfc w rfl) hblk (by omega) (hA.ones has h1)
      have hAc := ArrRep.append (c3 := (cs.toList.drop (len * ow.k + arr.toList.length)).toArray) hA0.take hA (by have := hA0.size; simp; omega)
      have hsz3 : (cs.toList.take (0 + len * ow.k) ++ arr.toList ++ cs.toList.drop (0 + len * ow.k + arr.toList.length)).toArray.size = cs.size := by simp; omega
      have hp := put_block (w' := w.setRow b (cs.toList.take (0 + len * ow.k) ++ arr.toList ++ cs.toList.drop (0 + len * ow.k + arr.toList.length)).toArray) (σ1 := del σ o) (id := id) (b := b) (e := el)
        (c := (cs.toList.take (0 + len * ow.k) ++ arr.toList ++ cs.toList.drop (0 + len * ow.k + arr.toList.length)).toArray) (x := ⟨ow.k, ow.rows ++ src⟩) hh hdel
        (fun m y h hr => by
          by_cases hm : m = o
          · simp [del, hm] at h
          · exact hm (hh.inj m o y ow b (hdel m y h) hσ hr hρ)) (.inl ⟨o, ow, hσ, hρ⟩) (fun b' h => by rw [hid] at h; cases h) hnI rfl rfl rfl (by simp [World.setRow])
        (fun b' h1 h2 => by simp [World.setRow, Array.getElem?_modify, Ne.symm h2]) (setRow_heap w b cs _ el (0, 0) hblk)
        (fun c0 e0 h => by unfold Blk at h hblk; rw [hblk] at h; cases h; exact ⟨hsz3.symm, rfl⟩)
        (by
          have e1 : (cs.toList.take (0 + len * ow.k) ++ arr.toList ++ cs.toList.drop (0 + len * ow.k + arr.toList.length)).toArray = (cs.toList.take (ow.rows.length * ow.k)).toArray ++ arr ++ (cs.toList.drop (len * ow.k + arr.toList.length)).toArray := by
            apply Array.ext'; simp [hlen]
          rw [e1]; exact hAc)
      refine ⟨.slice (some ⟨b, 0, none⟩) (len + src.length) cap, _, _, ?_, hp.1, hp.2, upd_ids, ?_⟩
      · rw [exec_append ho, hxv, Nat.zero_mul, hrun]; rfl
      · have hblk2 : Blk (w.setRow b (cs.toList.take (0 + len * ow.k) ++ arr.toList ++ cs.toList.drop (0 + len * ow.k + arr.toList.length)).toArray) b _ el := setRow_heap w b cs _ el (0, 0) hblk
        have := RepV.msl (ρ := upd ρ id (some b)) (I := I) (o := id) (k := ow.k) (off := 0) (len := len + src.length) (cap := cap) (upd_same _ _ _) hblk2 (by rw [hsz3, Nat.zero_add]; omega) hfit hmax
        simpa using this
    · have hA0' : ∃ arr0, (∀ w' : World, w'.heap = w.heap → (Builtin.firstCells ow.k len (.slice (some ⟨b, 0 * ow.k, none⟩) len cap)).run P w' = .ok arr0 w') ∧ arr0.size = ow.rows.length * ow.k ∧ ArrRep ρ I w ow.k ow.rows arr0 := by
        obtain ⟨arr0, k1, k2, k3, k4⟩ := run_src (P := P) (n := ow.k) (rows := ow.rows) hh hn0 (v := .msl o ow.k 0 len) (hxv ▸ hx ▸ evO_rep hg (x := x) (by simp [appendOp, Op.operands, Call.operands])) (by
          simp only [srcRows, hσ, Nat.zero_add, hlen, Nat.le_refl, and_self, if_true, List.drop_zero]
          rw [List.take_of_length_le (by omega)]) (fun r hr => by
          obtain ⟨i, hi, rfl⟩ := List.getElem_of_mem hr; exact hA0.row i hi)
        rw [hlen] at k1
        exact ⟨arr0, k1, k3, k4⟩
      obtain ⟨arr0, hold, hs0, hAr0⟩ := hA0'
      have hzs := zsize hz hzk hzl
      obtain ⟨newCap, d, hnc1, hnc2, hrun⟩ := run_append_new (P := P) (ty := op.type) (n := ow.k) (sCap := cap) (base := some ⟨b, 0 * ow.k, none⟩) (s := .slice (some ⟨b, 0 * ow.k, none⟩) len cap) rfl he hn hb hz hb0 ht2 hlo (by omega) hbnd hold hfc
      have hAn := ArrRep.append (c3 := Builtin.zeroCells z.cells (newCap - (len + src.length))) hAr0 hA (by omega)
      have hnn := (hh.forget (σ' := del σ o) hdel).new e hid hAn d
      simp only at hnn
      have hst := hnn.1
      refine ⟨.slice (some ⟨w.heap.size, 0, none⟩) (len + src.length) newCap, _, _, ?_, ⟨hst.toKept.unforget hdel, hst.ids⟩, hnn.2.1, upd_ids, ?_⟩
      · rw [exec_append ho, hxv, hrun]; rfl
      · have hsz4 : (arr0 ++ arr ++ Builtin.zeroCells z.cells (newCap - (len + src.length))).size = newCap * ow.k := by
          simp only [Array.size_append, zeroCells_size, hzs, hs0, has, hlen]
          rw [← Nat.add_mul, ← Nat.add_mul]; congr 1; omega
        have := RepV.msl (ρ := upd ρ id (some w.heap.size)) (I := I) (o := id) (k := ow.k) (off := 0) (len := len + src.length) (cap := newCap) (upd_same _ _ _) hnn.2.2 (by rw [hsz4, Nat.zero_add]; exact Nat.le_refl _) hnc1 hnc2
        simpa using this
theorem ArrRep.drop {n m : Nat} {rows : List (List V)} {c : Array Value} (h : ArrRep ρ I w n rows c) : ArrRep ρ I w n (rows.drop m) (c.toList.drop (m * n)).toArray where
  size := by
    have := h.size
    rw [List.length_drop, Nat.sub_mul]; simp; omega
  row := fun i hi => by
    rw [List.getElem_drop]; exact h.row _ _
  rep := fun i hi j hj => by
    rw [List.length_drop] at hi
    have e1 : (rows.drop m)[i] = rows[m + i] := List.getElem_drop ..
    have := h.rep (m + i) (by omega) j (by rw [← e1]; exact hj)
    have e2 : ((c.toList.drop (m * n)).toArray).getD (i * n + j) undef = c.getD ((m + i) * n + j) undef := by
      simp only [Array.getD_eq_getD_getElem?, List.getElem?_toArray, List.getElem?_drop, Array.getElem?_toList]
      congr 2; rw [Nat.add_mul]; omega
    rw [e2]
    have e3 : (rows.drop m)[i][j] = rows[m + i][j]'(by rw [← e1]; exact hj) := by congr 1
    rw [e3]; exact this
abbrev copyOp (x y : Operand) (t t2 : TypeId) : Op := .call { callee := .builtin .copy, args := #[x, y], argTypes := #[t, t2] }
theorem OpW.copy [Glb] {x y : Operand} {t t2 e : TypeId} {o n len : Nat} {ow : Own} {src : List (List V)} {N id : Nat} (hx : evO G x = .msl o n 0 len) (hσ : σ o = some ow) (hk : ow.k = n) (hlen : ow.rows.length = len)
    (he : elOf P t = some e) (hn : szOf P e = some n) (hn0 : n ≠ 0) (hs : srcRows σ (evO G y) = some src) (hl : ∀ r ∈ src, r.length = n) (h1 : RowsOne src) (hle : src.length ≤ len) :
    OpW P (copyOp x y t t2) G σ N id (.d (.val (.int .i64 (src.length : Int)))) (upd σ o (some ⟨n, src ++ ow.rows.drop src.length⟩)) :=
  .of_value fun op ho ρ I a w hh hid hg => by
    subst hk
    obtain ⟨b, cap, cs, el, hρ, hblk, hcs, hcap, hmax, hxv⟩ := (evO_rep hg (x := x) (by simp [copyOp, Op.operands, Call.operands])).toMsl hx
    obtain ⟨arr, hfc, hlo, has, hA⟩ := run_src (P := P) hh hn0 (evO_rep hg (x := y) (by simp [copyOp, Op.operands, Call.operands])) hs hl
    obtain ⟨c, e', hblk', hnI, hA0⟩ := hh.arr hσ hρ
    have hcc : cs = c ∧ el = e' := by
      unfold Blk at hblk hblk'; rw [hblk] at hblk'; cases hblk'; exact ⟨rfl, rfl⟩
    obtain ⟨rfl, rfl⟩ := hcc
    have hfit : arr.size ≤ cs.size := by
      have h2 := hA0.size
      have h3 : src.length * ow.k ≤ ow.rows.length * ow.k := Nat.mul_le_mul_right _ (by omega)
      omega
    have hAc := ArrRep.append (c3 := #[]) hA (hA0.drop (m := src.length)) has
    have hst := run_storeCells_at (P := P) b 0 el arr.toList 0 cs w hblk (by simpa using hfit) (hA.ones has h1)
    have hc' : (cs.toList.take (0 + 0) ++ arr.toList ++ cs.toList.drop (0 + 0 + arr.toList.length)).toArray = arr ++ (cs.toList.drop (src.length * ow.k)).toArray ++ #[] := by
      apply Array.ext'; simp [has]
    rw [hc'] at hst
    obtain ⟨h1', h2'⟩ := hh.write hσ hρ hblk (c' := arr ++ (cs.toList.drop (src.length * ow.k)).toArray ++ #[]) (by simp; omega) (x' := ⟨ow.k, src ++ ow.rows.drop src.length⟩) hAc
    refine ⟨_, ρ, _, ?_, h1', h2', fun _ _ => rfl, .d (.val (.int .i64 (src.length : Int)) rfl)⟩
    simp only [execOp, ho, resolve, invoke, builtin, pure_bind, Sem.run_bind]
    have hmin : Nat.min src.length len = src.length := Nat.min_eq_left hle
    simp only [List.map_toArray, List.map_cons, List.map_nil, Builtin.copy_, List.getElem?_toArray, List.getElem?_cons_zero, List.getElem?_cons_succ, Sem.run_bind, run_underlying (run_elOf he), Result.andThen_ok, run_szOf hn, Sem.run_pure, hxv, hlo, hmin, hfc w rfl, Nat.zero_mul, hst, goInt]
theorem nilFirst {n : Nat} : ∀ w' : World, w'.heap = w.heap → (Builtin.firstCells n 0 (.slice none 0 0)).run P w' = .ok #[] w' := fun w' _ => by simp [Builtin.firstCells]
theorem nilRep {n : Nat} : ArrRep ρ I w n [] #[] := ⟨by simp, fun i hi => absurd hi (by simp), fun i hi => absurd hi (by simp)⟩
theorem OpW.append_nil [Glb] {x y : Operand} {t t2 e : TypeId} {n byt : Nat} {z : Value} {src : List (List V)} {N id : Nat} (hx : evO G x = .d (.val (.slice none 0 0)))
    (he : elOf P t = some e) (hn : szOf P e = some n) (hn0 : n ≠ 0) (hb : bytOf P e = some byt) (hb0 : byt ≠ 0) (hz : zOf P e = some z) (hzk : rowOk (constV z) = true) (hzl : (toRow (constV z)).length = n) (ht2 : seqT P t2 = true)
    (hs : srcRows σ (evO G y) = some src) (hne : src ≠ []) (hl : ∀ r ∈ src, r.length = n) (hbnd : (2 * src.length + 1000) * byt ≤ 2 ^ 48) :
    OpW P (appendOp x y t t2) G σ N id (.msl id n 0 src.length) (upd σ id (some ⟨n, src⟩)) :=
  .of_value fun op ho ρ I a w hh hid hg => by
    have hxv := (evO_rep hg (x := x) (by simp [appendOp, Op.operands, Call.operands])).val hx
    obtain ⟨arr, hfc, hlo, has, hA⟩ := run_src (P := P) hh hn0 (evO_rep hg (x := y) (by simp [appendOp, Op.operands, Call.operands])) hs hl
    have hpos : 0 < src.length := List.length_pos_iff.2 hne
    have hzs := zsize hz hzk hzl
    obtain ⟨newCap, d, hnc1, hnc2, hrun⟩ := run_append_new (P := P) (ty := op.type) (n := n) (sLen := 0) (sCap := 0) (base := none) (s := .slice none 0 0) rfl he hn hb hz hb0 ht2 hlo (by omega) (by rw [Nat.zero_add]; exact hbnd) nilFirst hfc
    have hAn := ArrRep.append (c3 := Builtin.zeroCells z.cells (newCap - (0 + src.length))) (nilRep (n := n)) hA (by simp)
    have hnn := hh.new e hid hAn d
    simp only [List.nil_append] at hnn
    refine ⟨.slice (some ⟨w.heap.size, 0, none⟩) src.length newCap, _, _, ?_, hnn.1, hnn.2.1, upd_ids, ?_⟩
    · rw [exec_append ho, hxv, hrun, Nat.zero_add]; rfl
    · have hsz4 : (#[] ++ arr ++ Builtin.zeroCells z.cells (newCap - (0 + src.length)) : Array Value).size = newCap * n := by
        simp only [Array.size_append, zeroCells_size, hzs, has, List.size_toArray, List.length_nil]
        rw [Nat.zero_add, ← Nat.add_mul]; congr 1; omega
      have := RepV.msl (ρ := upd ρ id (some w.heap.size)) (I := I) (o := id) (k := n) (off := 0) (len := src.length) (cap := newCap) (upd_same _ _ _) hnn.2.2 (by rw [hsz4, Nat.zero_add]; exact Nat.le_refl _) (by omega) hnc2
      simpa using this
theorem OpP.append_nil [Glb] {x y : Operand} {t t2 e : TypeId} {n byt : Nat} {z : Value} {ys : List (List D)} (hx : evO G x = .d (.val (.slice none 0 0)))
    (he : elOf P t = some e) (hn : szOf P e = some n) (hn0 : n ≠ 0) (hb : bytOf P e = some byt) (hb0 : byt ≠ 0) (hz : zOf P e = some z) (hzk : rowOk (constV z) = true) (hzl : (toRow (constV z)).length = n) (ht2 : seqT P t2 = true)
    (hs : srcRows σ (evO G y) = some (ys.map (·.map .d))) (hl : ∀ r ∈ ys, r.length = n) (hbnd : (2 * ys.length + 1000) * byt ≤ 2 ^ 48) : OpP P (appendOp x y t t2) G σ (.d (.sl ys)) := by
  intro op ho ρ I a w hh hg K Q hK
  have hxv := (evO_rep hg (x := x) (by simp [appendOp, Op.operands, Call.operands])).val hx
  obtain ⟨arr, hfc, hlo, has, hA⟩ := run_src (P := P) hh hn0 (evO_rep hg (x := y) (by simp [appendOp, Op.operands, Call.operands])) hs (fun r hr => by
    obtain ⟨d, hd, rfl⟩ := List.mem_map.1 hr; rw [List.length_map]; exact hl d hd)
  rw [List.length_map] at hfc hlo has
  show op.upon P a K Q ((execOp a.eval op).run P w)
  rw [exec_append ho, hxv]
  by_cases h0 : ys.length = 0
  · have : ys = [] := List.eq_nil_of_length_eq_zero h0
    subst this
    have hrun : (Builtin.append_ #[t, t2] op.type #[.slice none 0 0, a.eval y]).run P w = .ok (.slice none 0 0) w := by
      obtain ⟨d2, hd2, hd3⟩ := run_seqT ht2
      have hf0 := hfc w rfl
      simp only [List.length_nil] at hf0 hlo
      unfold Builtin.append_
      simp only [List.getElem?_toArray, List.getElem?_cons_zero, List.getElem?_cons_succ, Sem.run_bind, run_underlying (run_elOf he), Result.andThen_ok, run_szOf hn, Sem.run_pure, run_underlying hd2]
      cases d2
      case int k => exact absurd rfl (hd3 k)
      all_goals
        simp only [Bool.false_eq_true, if_false, hlo, Result.andThen_ok, Sem.run_bind, Bool.not_false, if_true, Nat.add_zero, Nat.le_refl, hf0, Sem.run_pure]
    rw [hrun]
    exact hK _ I w (Pure.refl hh.lt) (.d (.nil none 0))
  · have hzs := zsize hz hzk hzl
    obtain ⟨newCap, d, hnc1, hnc2, hrun⟩ := run_append_new (P := P) (ty := op.type) (n := n) (sLen := 0) (sCap := 0) (base := none) (s := .slice none 0 0) rfl he hn hb hz hb0 ht2 hlo (by omega) (by rw [Nat.zero_add]; exact hbnd) nilFirst hfc
    rw [hrun, Nat.zero_add]
    refine hK _ (fun b => I b ∨ b = w.heap.size) _ ⟨⟨rfl, rfl, rfl, by simp, fun k hk => by simp [Array.getElem?_push, Nat.ne_of_lt hk]⟩, fun b h => .inl h, fun b h => h.imp id (fun h => by omega), fun b h => ?_⟩ (.d ?_)
    · rcases h with h | h
      · have := hh.lt b h; simp; omega
      · simp; omega
    · have hAn := ArrRep.append (c3 := Builtin.zeroCells z.cells (newCap - ys.length)) (nilRep (n := n) (ρ := ρ) (I := I) (w := w)) hA (by simp)
      rw [List.nil_append] at hAn
      have hsz4 : (#[] ++ arr ++ Builtin.zeroCells z.cells (newCap - ys.length) : Array Value).size = newCap * n := by
        simp only [Array.size_append, zeroCells_size, hzs, has, List.size_toArray, List.length_nil]
        rw [Nat.zero_add, ← Nat.add_mul]; congr 1; omega
      have hdn : ∀ i (hi : i < ys.length), ys[i].length = n := fun i hi => hl _ (List.getElem_mem hi)
      refine .sl w.heap.size 0 newCap n ys (fun i j => (#[] ++ arr ++ Builtin.zeroCells z.cells (newCap - ys.length) : Array Value).getD (i * n + j) undef) (.inr rfl) (by omega) hnc2 (fun row hm => hl row hm) (fun i j hi hj => ?_) (fun i j hi hj => ?_)
      · have hlt : i * n + j < (#[] ++ arr ++ Builtin.zeroCells z.cells (newCap - ys.length) : Array Value).size := by
          have : (i + 1) * n ≤ newCap * n := Nat.mul_le_mul_right _ (by omega)
          rw [Nat.add_mul, Nat.one_mul] at this
          have := hdn i hi; omega
        rw [Nat.zero_add]
        have hb2 : Blk { w with heap := w.heap.push (.cells (#[] ++ arr ++ Builtin.zeroCells z.cells (newCap - ys.length)) e), drawn := d } w.heap.size (#[] ++ arr ++ Builtin.zeroCells z.cells (newCap - ys.length)) e := by simp [Blk]
        exact blk_cell hb2 hlt
      · have := hAn.rep i (by simpa using hi) j (by simpa using hj)
        simp only [List.getElem_map] at this
        exact (this.toD rfl).mono (fun b h => .inl h) (fun b hb => by have := hh.lt b hb; simp [Array.getElem?_push, Nat.ne_of_lt this])
theorem OpW.makeSlice [Glb] {x y : Operand} {t e : TypeId} {n byt l c : Nat} {z : Value} {N id : Nat} (hx : evO G x = .d (.val (.int .i64 (l : Int)))) (hy : evO G y = .d (.val (.int .i64 (c : Int)))) (hlc : l ≤ c)
    (he : elOf P t = some e) (hn : szOf P e = some n) (hn0 : n ≠ 0) (hb : bytOf P e = some byt) (hb0 : byt ≠ 0) (hz : zOf P e = some z) (hzk : rowOk (constV z) = true) (hzl : (toRow (constV z)).length = n) (hbnd : c * byt ≤ 2 ^ 48) :
    OpW P (.makeSlice t x y) G σ N id (.msl id n 0 l) (upd σ id (some ⟨n, List.replicate l (toRow (constV z))⟩)) :=
  .of_value fun op ho ρ I a w hh hid hg => by
    have hxv := (evO_rep hg (x := x) (by simp [Op.operands])).val hx
    have hyv := (evO_rep hg (x := y) (by simp [Op.operands])).val hy
    obtain ⟨ti, hti, hti2⟩ := run_bytOf hb
    have hzs := zsize hz hzk hzl
    obtain ⟨k1, k2⟩ := (constV_rep (ρ := ρ) (I := I) (w := w) z).row (rowOk_or hzk)
    have hc48 : c ≤ 2 ^ 48 := by
      have : c * 1 ≤ c * byt := Nat.mul_le_mul_left _ (by omega)
      omega
    have hwl : IntKind.i64.wrap (l : Int) = l := by
      simp only [IntKind.wrap, IntKind.bits, IntKind.signed, Bool.true_and]
      split <;> simp only [decide_eq_true_eq, ge_iff_le] at * <;> omega
    have hwc : IntKind.i64.wrap (c : Int) = c := by
      simp only [IntKind.wrap, IntKind.bits, IntKind.signed, Bool.true_and]
      split <;> simp only [decide_eq_true_eq, ge_iff_le] at * <;> omega
    let cells : Array Value := if c * n = 0 then (Array.range (c * n)).map ((#[] : Array Value)[· % (#[] : Array Value).size]!) else (Array.range (c * n)).map (z.cells[· % z.cells.size]!)
    have hcs : cells.size = c * n := by simp only [cells]; split <;> simp
    have hA : ArrRep ρ I w n (List.replicate l (toRow (constV z))) cells := by
      refine ⟨by rw [hcs, List.length_replicate]; exact Nat.mul_le_mul_right _ hlc, fun i hi => by rw [List.getElem_replicate]; exact hzl, fun i hi j hj => ?_⟩
      simp only [List.getElem_replicate] at hj ⊢
      simp only [List.length_replicate] at hi
      have hj' : j < n := by omega
      have hlt : i * n + j < c * n := by
        have : (i + 1) * n ≤ c * n := Nat.mul_le_mul_right _ (by omega)
        rw [Nat.add_mul, Nat.one_mul] at this; omega
      have e1 : cells.getD (i * n + j) undef = z.cells.getD j undef := by
        simp only [cells]
        rw [if_neg (by omega)]
        simp only [Array.getD_eq_getD_getElem?, Array.getElem?_map, Array.getElem?_range, hlt, if_true, Option.map_some, Option.getD_some, hzs]
        rw [Nat.add_comm, Nat.add_mul_mod_self_right, Nat.mod_eq_of_lt hj']
        simp [hzs, hj']
      rw [e1]; exact k2 j (by omega)
    obtain ⟨h1, h2, h3⟩ := hh.new e hid hA w.drawn
    refine ⟨.slice (some ⟨w.heap.size, 0, none⟩) l c, _, _, ?_, h1, h2, upd_ids, ?_⟩
    · have hcb : (byt : Int) * (c : Int) ≤ 2 ^ 48 := by
        have : ((c * byt : Nat) : Int) ≤ ((2 ^ 48 : Nat) : Int) := Int.ofNat_le.2 hbnd
        rw [Int.mul_comm]; simpa using this
      simp only [execOp, ho, hxv, hyv, Instr.makeSlice, Sem.run_bind, run_underlying (run_elOf he), Result.andThen_ok, asInt, asIntOf, Sem.run_pure, hti, hti2, hwl, hwc]
      rw [if_neg (by simp; omega)]
      simp only [Sem.run_bind, run_askRoom, Result.andThen_ok, run_szOf hn, Int.toNat_natCast]
      by_cases h0 : c * n = 0
      · simp only [h0, if_true, Sem.run_pure, Result.andThen_ok, newRow, Sem.run_bind, run_newObj, cells]
      · simp only [h0, if_false, Sem.run_bind, run_zOf hz, Sem.run_pure, Result.andThen_ok, newRow, run_newObj, cells]
    · have := RepV.msl (ρ := upd ρ id (some w.heap.size)) (I := I) (o := id) (k := n) (off := 0) (len := l) (cap := c) (upd_same _ _ _) h3 (by rw [hcs, Nat.zero_add]; exact Nat.le_refl _) hlc (by omega)
      simpa using this
def elT (P : Program) (t : TypeId) : Option (Nat × Nat × List V) :=
  match elOf P t with
  | some e => match szOf P e, bytOf P e, zOf P e with
    | some n, some byt, some z => if n ≠ 0 ∧ byt ≠ 0 ∧ rowOk (constV z) = true ∧ (toRow (constV z)).length = n then some (n, byt, toRow (constV z)) else none
    | _, _, _ => none
  | none => none
theorem elT_some {t n byt : Nat} {zr : List V} (h : elT P t = some (n, byt, zr)) : ∃ e z, elOf P t = some e ∧ szOf P e = some n ∧ bytOf P e = some byt ∧ zOf P e = some z ∧ n ≠ 0 ∧ byt ≠ 0 ∧ rowOk (constV z) = true ∧ (toRow (constV z)).length = n ∧ zr = toRow (constV z) := by
  unfold elT at h
  split at h
  · next e he =>
    split at h
    · next n' b' z h1 h2 h3 =>
      split at h
      · next hc =>
        simp only [Option.some.injEq, Prod.mk.injEq] at h
        obtain ⟨rfl, rfl, rfl⟩ := h
        exact ⟨e, z, he, h1, h2, h3, hc.1, hc.2.1, hc.2.2.1, hc.2.2.2, rfl⟩
      · cases h
    · cases h
  · cases h
def cutStr (s : ByteArray) (lo hi : Option Int) : Option ByteArray :=
  let h := hi.getD s.size
  let l := lo.getD 0
  if 0 ≤ l ∧ l ≤ h ∧ h ≤ s.size then some (s.extract l.toNat h.toNat) else none
def intOfV : V → Option Int | .d (.val (.int _ n)) => some n | _ => none
def boundV (G : Nat → V) : Option Operand → Option (Option Int)
  | none => some none
  | some x => (intOfV (evO G x)).map some
theorem OpP.slice_str [Glb] {t : TypeId} {x : Operand} {lo hi : Option Operand} {s r : ByteArray} {l h : Option Int} (hx : evO G x = .d (.val (.string s))) (hu : P.underlying t = some .string) (hlo : boundV G lo = some l) (hhi : boundV G hi = some h) (hr : cutStr s l h = some r) :
    OpP P (.slice t x lo hi none) G σ (.d (.val (.string r))) :=
  .of_run fun op ho ρ I a w hh hg => by
    have hxv := (evO_rep hg (x := x) (by simp [Op.operands])).val hx
    have bound : ∀ (b : Option Operand) (v : Option Int), (∀ y, b = some y → y ∈ (Op.slice t x lo hi none).operands) → boundV G b = some v → ∃ k : Int → IntKind, (b.map a.eval) = v.map (fun n => Value.int (k n) n) := by
      intro b v hb hv
      cases b with
      | none => simp only [boundV, Option.some.injEq] at hv; subst hv; exact ⟨fun _ => .i64, rfl⟩
      | some y =>
        simp only [boundV] at hv
        have hy := evO_rep hg (hb y rfl)
        generalize evO G y = vy at hv hy
        unfold intOfV at hv
        split at hv
        · next k n => simp only [Option.map_some, Option.some.injEq] at hv; subst hv; exact ⟨fun _ => k, by simp [hy.val rfl]⟩
        · simp at hv
    obtain ⟨kl, hl⟩ := bound lo l (fun y hy => by simp [Op.operands, hy]) hlo
    obtain ⟨kh, hh'⟩ := bound hi h (fun y hy => by simp [Op.operands, hy]) hhi
    unfold cutStr at hr
    simp only at hr
    split at hr
    · next hc =>
      cases hr
      have hsz := ((evO_rep hg (x := x) (by simp [Op.operands])).toD hx).okv
      refine ⟨.string (s.extract ((l.getD 0).toNat) ((h.getD s.size).toNat)), ?_, .d (.val _ (by simp only [okVal, decide_eq_true_eq, ByteArray.size_extract] at hsz ⊢; omega))⟩
      simp only [execOp, ho, hxv, hl, hh', Option.map_none, Instr.sliceAt, Sem.run_bind, run_underlying hu, Result.andThen_ok, Instr.slice, Option.isSome_none, Bool.false_eq_true, if_false]
      cases l with
      | none =>
        cases h with
        | none => simp [Instr.sliceBounds]
        | some h => simp only [Option.getD_some, Option.getD_none] at hc; simp [Instr.sliceBounds, Instr.sliceBound, asIntOf, show (0:Int) ≤ h by omega, show h ≤ (s.size:Int) by omega]
      | some l =>
        cases h with
        | none => simp only [Option.getD_some, Option.getD_none] at hc; simp [Instr.sliceBounds, Instr.sliceBound, asIntOf, show (0:Int) ≤ l by omega, show l ≤ (s.size:Int) by omega]
        | some h =>
          simp only [Option.getD_some] at hc
          have e : ((h.toNat : Nat) : Int) = h := by omega
          simp [Instr.sliceBounds, Instr.sliceBound, asIntOf, show (0:Int) ≤ h by omega, show h ≤ (s.size:Int) by omega, show (0:Int) ≤ l by omega, show l ≤ h by omega, e]
    · cases hr
def cutL {α : Type} (xs : List α) (lo hi : Option Int) : Option (List α) :=
  let h := hi.getD xs.length
  let l := lo.getD 0
  if 0 ≤ l ∧ l ≤ h ∧ h ≤ xs.length then some ((xs.drop l.toNat).take (h.toNat - l.toNat)) else none
theorem RepD.cut {I : Nat → Prop} {w : World} {xs : List (List D)} {s l h : Nat} {c : Value} (hx : RepD I w (.sl xs) c) (hs : ∀ row ∈ xs, row.length = s) (h1 : l ≤ h) (h2 : h ≤ xs.length) :
    ∃ a cap, c = .slice a xs.length cap ∧ xs.length ≤ cap ∧ ∀ a', (if cap = l then a else a.map (·.add (l * s))) = a' → RepD I w (.sl ((xs.drop l).take (h - l))) (.slice a' (h - l) (cap - l)) := by
  cases hx with
  | nil a cap =>
    refine ⟨a, cap, rfl, Nat.zero_le _, fun a' _ => ?_⟩
    have : h = 0 := by simpa using h2
    subst this
    have : l = 0 := by omega
    subst this
    exact .nil _ _
  | sl b off cap k xs f hI hc hm hk hf hr =>
    refine ⟨_, cap, rfl, hc, fun a' ha => ?_⟩
    rcases Nat.lt_or_ge l h with hlt | hge
    · have hne : ¬ cap = l := by omega
      rw [if_neg hne] at ha
      simp only [Option.map_some, add_addr] at ha
      subst ha
      have hks : k = s := by
        have h0 : 0 < xs.length := by omega
        rw [← hk _ (List.getElem_mem h0), hs _ (List.getElem_mem h0)]
      subst hks
      have hlen : ((xs.drop l).take (h - l)).length = h - l := by simp; omega
      have key : ∀ i (hi : i < ((xs.drop l).take (h - l)).length), ((xs.drop l).take (h - l))[i] = xs[l + i]'(by omega) := fun i hi => by simp
      have := RepD.sl (I := I) (w := w) b (off + l * k) (cap - l) k ((xs.drop l).take (h - l)) (fun i j => f (l + i) j) hI (by omega) (by omega)
        (fun row hr' => hk row (List.mem_of_mem_drop (List.mem_of_mem_take hr'))) (fun i j hi hj => by
          have hj' : j < (xs[l + i]'(by omega)).length := by rw [← key i hi]; exact hj
          have := hf (l + i) j (by omega) hj'
          rw [Nat.add_mul, ← Nat.add_assoc] at this
          exact this) (fun i j hi hj => by
          have hj' : j < (xs[l + i]'(by omega)).length := by rw [← key i hi]; exact hj
          have := hr (l + i) j (by omega) hj'
          simp only [key i hi]
          exact this)
      rw [hlen] at this
      exact this
    · have : h = l := by omega
      subst this
      simp only [Nat.sub_self, List.take_zero]
      exact .nil _ _
theorem OpP.slice_sl [Glb] {t e : TypeId} {x : Operand} {lo hi : Option Operand} {xs r : List (List D)} {l h : Option Int} {s : Nat} (hx : evO G x = .d (.sl xs)) (he : elOf P t = some e) (hsz : szOf P e = some s) (hs : ∀ row ∈ xs, row.length = s) (hlo : boundV G lo = some l) (hhi : boundV G hi = some h) (hr : cutL xs l h = some r) :
    OpP P (.slice t x lo hi none) G σ (.d (.sl r)) :=
  .of_run fun op ho ρ I a w hh hg => by
    have hxr := (evO_rep hg (x := x) (by simp [Op.operands])).toD hx
    have bound : ∀ (b : Option Operand) (v : Option Int), (∀ y, b = some y → y ∈ (Op.slice t x lo hi none).operands) → boundV G b = some v → ∃ k : Int → IntKind, (b.map a.eval) = v.map (fun n => Value.int (k n) n) := by
      intro b v hb hv
      cases b with
      | none => simp only [boundV, Option.some.injEq] at hv; subst hv; exact ⟨fun _ => .i64, rfl⟩
      | some y =>
        simp only [boundV] at hv
        have hy := evO_rep hg (hb y rfl)
        generalize evO G y = vy at hv hy
        unfold intOfV at hv
        split at hv
        · next k n => simp only [Option.map_some, Option.some.injEq] at hv; subst hv; exact ⟨fun _ => k, by simp [hy.val rfl]⟩
        · simp at hv
    obtain ⟨kl, hl⟩ := bound lo l (fun y hy => by simp [Op.operands, hy]) hlo
    obtain ⟨kh, hh'⟩ := bound hi h (fun y hy => by simp [Op.operands, hy]) hhi
    unfold cutL at hr
    simp only at hr
    split at hr
    · next hc =>
      cases hr
      obtain ⟨ad, cap, hv, hcap, hd⟩ := RepD.cut (l := (l.getD 0).toNat) (h := (h.getD xs.length).toNat) hxr hs (by omega) (by omega)
      refine ⟨.slice (if cap = (l.getD 0).toNat then ad else ad.map (·.add ((l.getD 0).toNat * s))) ((h.getD xs.length).toNat - (l.getD 0).toNat) (cap - (l.getD 0).toNat), ?_, .d (hd _ rfl)⟩
      simp only [execOp, ho, hv, hl, hh', Option.map_none, Instr.sliceAt, Sem.run_bind, run_underlying (run_elOf he), Result.andThen_ok, Instr.slice]
      cases l with
      | none =>
        cases h with
        | none => simp [Instr.sliceBounds, run_szOf hsz]
        | some h => simp only [Option.getD_some, Option.getD_none] at hc; simp [Instr.sliceBounds, Instr.sliceBound, asIntOf, run_szOf hsz, show (0:Int) ≤ h by omega, show h ≤ (cap:Int) by omega]
      | some l =>
        cases h with
        | none => simp only [Option.getD_some, Option.getD_none] at hc; simp [Instr.sliceBounds, Instr.sliceBound, asIntOf, run_szOf hsz, show (0:Int) ≤ l by omega, show l ≤ (xs.length:Int) by omega]
        | some h =>
          simp only [Option.getD_some] at hc
          have e : ((h.toNat : Nat) : Int) = h := by omega
          simp [Instr.sliceBounds, Instr.sliceBound, asIntOf, run_szOf hsz, show (0:Int) ≤ h by omega, show h ≤ (cap:Int) by omega, show (0:Int) ≤ l by omega, show l ≤ h by omega, e]
    · cases hr
end
end Go.Iso
