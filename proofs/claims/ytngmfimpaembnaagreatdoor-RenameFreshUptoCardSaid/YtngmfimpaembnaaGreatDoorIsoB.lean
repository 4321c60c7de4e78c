/- The abstract layer, part B: operands, and the operations that turn no block. -/
import Derived.Test.YtngmfimpaembnaaGreatDoorIsoA
import Derived.Laws.Cells
import Derived.Laws.Entries
namespace Go.Iso
open Go Go.RowKit
set_option linter.unusedSimpArgs false
set_option linter.unusedVariables false
def constC : Value → V
  | .agg _ => .any
  | .tuple _ => .any
  | .string s => if s.size ≤ 9223372036854775807 then .d (.val (.string s)) else .any
  | c => .d (.val c)
def constV : Value → V
  | .agg cs => .agg (cs.toList.map constC)
  | c => constC c
def V.one : V → Bool
  | .any | .agg _ | .tup _ => false
  | _ => true
def evO (G : Nat → V) : Operand → V
  | .tmp t => G t
  | .const c => constV c
  | .global _ => .any
  | .func f => .fn f []
def OkOn (G : Nat → V) (ρ : Nat → Option Nat) (I : Nat → Prop) (w : World) (a : Act) (xs : Array Operand) : Prop :=
  ∀ t, Operand.tmp t ∈ xs → RepV ρ I w (G t) (a.eval (.tmp t))
section
variable {P : Program} {G : Nat → V} {σ : Heap} {ρ : Nat → Option Nat} {I : Nat → Prop} {w : World} {a : Act}
theorem constC_rep (c : Value) : RepV ρ I w (constC c) c := by
  cases c with
  | agg cs => exact .any _
  | tuple cs => exact .any _
  | string s =>
    simp only [constC]
    by_cases h : s.size ≤ 9223372036854775807
    · rw [if_pos h]; exact .d (.val _ (by simp [okVal, h]))
    · rw [if_neg h]; exact .any _
  | _ => exact .d (.val _ rfl)
theorem RepD.okv {c c' : Value} (h : RepD I w (.val c) c') : okVal c = true := by
  cases h with | val _ h => exact h
theorem RepD.one {x : D} {c : Value} (h : RepD I w x c) : c.oneCell' = true := by
  cases h with
  | val c h => exact okVal_one h
  | _ => rfl
theorem RepV.one {v : V} {c : Value} (h : RepV ρ I w v c) (hv : v.one = true) : c.oneCell' = true := by
  cases h with
  | d h => exact h.one
  | any | agg | tup => cases hv
  | _ => rfl
theorem constV_rep (c : Value) : RepV ρ I w (constV c) c := by
  cases c with
  | tuple cs => exact .any _
  | agg cs =>
    refine .agg (by simp) (fun i hi => ?_)
    simp only [List.length_map, Array.length_toList] at hi
    rw [List.getElem_map, Array.getElem_toList, Array.getD_eq_getD_getElem?, Array.getElem?_eq_getElem hi]
    exact constC_rep _
  | _ => simp only [constV]; exact constC_rep _
theorem evO_rep {xs : Array Operand} (h : OkOn G ρ I w a xs) {x : Operand} (hx : x ∈ xs) : RepV ρ I w (evO G x) (a.eval x) := by
  cases x with
  | tmp t => exact h t hx
  | const c => exact constV_rep c
  | global g => exact .any _
  | func f => exact .fn (vs := #[]) rfl (fun i hi => absurd hi (Nat.not_lt_zero i))
theorem RepV.val {v : V} {c d : Value} (h : RepV ρ I w v d) (e : v = .d (.val c)) : d = c := by
  cases h with
  | d h => cases e; cases h; rfl
  | _ => cases e
theorem RepV.toD {v : V} {x : D} {c : Value} (h : RepV ρ I w v c) (e : v = .d x) : RepD I w x c := by
  cases h with
  | d h => cases e; exact h
  | _ => cases e
theorem RepV.toAgg {v : V} {cs : List V} {c : Value} (h : RepV ρ I w v c) (e : v = .agg cs) : ∃ vs : Array Value, c = .agg vs ∧ vs.size = cs.length ∧ ∀ i (hi : i < cs.length), RepV ρ I w cs[i] (vs.getD i undef) := by
  cases h with
  | agg hn h => cases e; exact ⟨_, rfl, hn, h⟩
  | _ => cases e
theorem RepV.toTup {v : V} {cs : List V} {c : Value} (h : RepV ρ I w v c) (e : v = .tup cs) : ∃ vs : Array Value, c = .tuple vs ∧ vs.size = cs.length ∧ ∀ i (hi : i < cs.length), RepV ρ I w cs[i] (vs.getD i undef) := by
  cases h with
  | tup hn h => cases e; exact ⟨_, rfl, hn, h⟩
  | _ => cases e
theorem RepV.toPtr {v : V} {o k i j : Nat} {c : Value} (h : RepV ρ I w v c) (e : v = .ptr o k i j) : ∃ b, ρ o = some b ∧ c = .pointer (some ⟨b, i * k + j, none⟩) := by
  cases h with
  | ptr h => cases e; exact ⟨_, h, rfl⟩
  | _ => cases e
theorem RepV.toIptr {v : V} {cs : List D} {c : Value} (h : RepV ρ I w v c) (e : v = .iptr cs) : ∃ b off, Row I w b off cs ∧ c = .pointer (some ⟨b, off, none⟩) := by
  cases h with
  | iptr h => cases e; exact ⟨_, _, h, rfl⟩
  | _ => cases e
theorem RepV.toMsl {v : V} {o k off len : Nat} {c : Value} (h : RepV ρ I w v c) (e : v = .msl o k off len) :
    ∃ b cap cs el, ρ o = some b ∧ Blk w b cs el ∧ (off + cap) * k ≤ cs.size ∧ len ≤ cap ∧ cap ≤ 9223372036854775807 ∧ c = .slice (some ⟨b, off * k, none⟩) len cap := by
  cases h with
  | msl h hb hs hl hm => cases e; exact ⟨_, _, _, _, h, hb, hs, hl, hm, rfl⟩
  | _ => cases e
theorem RepV.toFn {v : V} {f : FuncId} {cs : List V} {c : Value} (h : RepV ρ I w v c) (e : v = .fn f cs) : ∃ vs : Array Value, c = .func (.func f) #[] vs ∧ vs.size = cs.length ∧ ∀ i (hi : i < cs.length), RepV ρ I w cs[i] (vs.getD i undef) := by
  cases h with
  | fn hn h => cases e; exact ⟨_, rfl, hn, h⟩
  | _ => cases e
theorem RepD.toSl {x : D} {xs : List (List D)} {c : Value} (h : RepD I w x c) (e : x = .sl xs) : ∃ a cap, c = .slice a xs.length cap ∧ xs.length ≤ cap + xs.length ∧
    (∀ i (hi : i < xs.length), ∃ b off k, a = some ⟨b, off, none⟩ ∧ (∀ row ∈ xs, row.length = k) ∧ Row I w b (off + i * k) xs[i]) := by
  cases h with
  | val c h => cases e
  | nil a cap => cases e; exact ⟨a, cap, rfl, by simp, fun i hi => absurd hi (by simp)⟩
  | sl b off cap k xs f hI hc hm hk hf hr =>
    cases e
    exact ⟨_, cap, rfl, by omega, fun i hi => ⟨b, off, k, rfl, hk, hI, fun j hj => ⟨f i j, hf i j hi hj, hr i j hi hj⟩⟩⟩
/-! ### The program's tables -/
def szOf (P : Program) (t : TypeId) : Option Nat := (P.info? t).map (·.size)
def aggOf (P : Program) (t : TypeId) : Option Bool := (P.underlying t).map fun | .struct _ | .array _ _ => true | _ => false
def elOf (P : Program) (t : TypeId) : Option TypeId := (P.underlying t).bind fun | .slice e => some e | _ => none
def fldOf (P : Program) (t : TypeId) (f : Nat) : Option (Nat × TypeId) := (P.underlying t).bind fun | .struct fs => (fs[f]?).map fun x => (x.offset, x.type) | _ => none
theorem run_szOf {t : TypeId} {n : Nat} (h : szOf P t = some n) : (sizeOf t).run P w = .ok n w := by
  unfold szOf at h
  cases hi : P.info? t with
  | none => simp [hi] at h
  | some i => simp only [hi, Option.map_some, Option.some.injEq] at h; simp [sizeOf, typeInfo, hi, h]
theorem run_aggOf {t : TypeId} {b : Bool} (h : aggOf P t = some b) : (isAgg t).run P w = .ok b w := by
  unfold aggOf at h
  cases hi : P.underlying t with
  | none => simp [hi] at h
  | some d =>
    simp only [hi, Option.map_some, Option.some.injEq] at h
    cases d <;> simp only at h <;> subst h <;> simp [isAgg, underlying, hi]
theorem run_elOf {t e : TypeId} (h : elOf P t = some e) : P.underlying t = some (.slice e) := by
  unfold elOf at h
  cases hi : P.underlying t with
  | none => simp [hi] at h
  | some d => cases d <;> simp [hi] at h; rw [h]
theorem run_fldOf {t : TypeId} {f off : Nat} {ft : TypeId} (h : fldOf P t f = some (off, ft)) : ∃ (fs : Array Field) (x : Field), P.underlying t = some (.struct fs) ∧ fs[f]? = some x ∧ x.offset = off ∧ x.type = ft := by
  unfold fldOf at h
  cases hi : P.underlying t with
  | none => simp [hi] at h
  | some d =>
    cases d with
    | struct fs =>
      simp only [hi, Option.bind_some] at h
      cases hx : fs[f]? with
      | none => simp [hx] at h
      | some x => simp only [hx, Option.map_some, Option.some.injEq, Prod.mk.injEq] at h; exact ⟨fs, x, rfl, hx, h.1, h.2⟩
    | _ => simp [hi] at h
/-! ### Operations that turn no block -/
def OpP [Glb] (P : Program) (op : Op) (G : Nat → V) (σ : Heap) (v : V) : Prop :=
  ∀ (o : Oper), o.op = op → ∀ ρ I a w, HeapOk σ ρ I w → OkOn G ρ I w a op.operands → ∀ (K : Act → World → Prop) (Q : Exit → Act → World → Prop),
    (∀ c I' w', Pure I w I' w' → RepV ρ I' w' v c → K (a.put o.dst c) w') → o.wp P a w K Q
theorem OpP.of_run [Glb] {op : Op} {v : V} (h : ∀ (o : Oper), o.op = op → ∀ ρ I a w, HeapOk σ ρ I w → OkOn G ρ I w a op.operands →
    ∃ c, (execOp a.eval o).run P w = .ok (.value c) w ∧ RepV ρ I w v c) : OpP P op G σ v := by
  intro o ho ρ I a w hh hg K Q hK
  obtain ⟨c, hr, hv⟩ := h o ho ρ I a w hh hg
  show o.upon P a K Q ((execOp a.eval o).run P w)
  rw [hr]
  exact hK c I w (Pure.refl hh.lt) hv
theorem OpP.move [Glb] (x : Operand) : OpP P (.move x) G σ (evO G x) :=
  .of_run fun o ho ρ I a w _ hg => ⟨a.eval x, by simp [execOp, ho], evO_rep hg (by simp [Op.operands])⟩
theorem OpP.assign [Glb] (x : Operand) : OpP P (.assign x) G σ (evO G x) :=
  .of_run fun o ho ρ I a w _ hg => ⟨a.eval x, by simp [execOp, ho], evO_rep hg (by simp [Op.operands])⟩
theorem OpP.pick [Glb] {c x y : Operand} {t : Bool} (h : evO G c = .d (.val (.bool t))) : OpP P (.pick c x y) G σ (evO G (if t then x else y)) :=
  .of_run fun o ho ρ I a w _ hg => ⟨a.eval (if t then x else y), by
    have hc := (evO_rep hg (x := c) (by simp [Op.operands])).val h
    cases t <;> simp [execOp, ho, hc, asBool], evO_rep hg (by cases t <;> simp [Op.operands])⟩
def ldV (agg : Bool) (n : Nat) (cs : List V) : Option V :=
  if agg then (if n ≤ cs.length then some (.agg (cs.take n)) else none) else cs.head?
theorem run_loadVar {t : TypeId} {agg : Bool} {n : Nat} {cs : List V} {v : V} {b off : Nat} (ha : aggOf P t = some agg) (hn : szOf P t = some n) (hv : ldV agg n cs = some v)
    (hc : ∀ j (h : j < cs.length), ∃ c, cellAt w b (off + j) = some c ∧ RepV ρ I w cs[j] c) : ∃ c, (loadVar t ⟨b, off, none⟩).run P w = .ok c w ∧ RepV ρ I w v c := by
  have hadd : ∀ j, (⟨b, off, none⟩ : Addr).add j = ⟨b, off + j, none⟩ := fun j => by
    unfold Addr.add; split
    · next h => subst h; rfl
    · rfl
  cases agg with
  | true =>
    simp only [ldV, if_true] at hv
    split at hv
    · next hle =>
      cases hv
      have hf : ∀ j, ∃ c, j < cs.length → cellAt w b (off + j) = some c ∧ ∀ h : j < cs.length, RepV ρ I w cs[j] c := fun j => by
        by_cases h : j < cs.length
        · obtain ⟨c, h1, h2⟩ := hc j h; exact ⟨c, fun _ => ⟨h1, fun _ => h2⟩⟩
        · exact ⟨undef, fun h' => absurd h' h⟩
      let f : Nat → Value := fun j => Classical.choose (hf j)
      have hfs := fun j => Classical.choose_spec (hf j)
      refine ⟨.agg ((List.range n).map f).toArray, ?_, .agg (by simp; omega) (fun i hi => ?_)⟩
      · simp only [loadVar, Sem.run_bind, run_aggOf ha, Result.andThen_ok, if_true, run_szOf hn]
        rw [run_loadCells w ⟨b, off, none⟩ n f (fun j hj => by rw [hadd]; exact (hfs j (by omega)).1)]
        rfl
      · have hi' : i < n := by simp at hi; omega
        rw [List.getElem_take]
        have : (((List.range n).map f).toArray).getD i undef = f i := by simp [Array.getD_eq_getD_getElem?, hi']
        rw [this]
        exact (hfs i (by omega)).2 (by omega)
    · cases hv
  | false =>
    simp only [ldV, Bool.false_eq_true, if_false] at hv
    cases cs with
    | nil => cases hv
    | cons x rest =>
      cases hv
      obtain ⟨c, h1, h2⟩ := hc 0 (by simp)
      refine ⟨c, ?_, h2⟩
      simp only [loadVar, Sem.run_bind, run_aggOf ha, Result.andThen_ok, Bool.false_eq_true, if_false, run_load]
      have h1' : w.cell? ⟨b, off, none⟩ = some c := h1
      rw [h1']
theorem Row.drop {b off : Nat} {cs : List D} (h : Row I w b off cs) (n : Nat) : Row I w b (off + n) (cs.drop n) :=
  ⟨h.1, fun j hj => by
    simp only [List.length_drop] at hj
    obtain ⟨c, h1, h2⟩ := h.2 (n + j) (by omega)
    exact ⟨c, by rw [Nat.add_assoc]; exact h1, by rw [List.getElem_drop]; exact h2⟩⟩
theorem run_loadIptr {cs : List D} {t : TypeId} {agg : Bool} {n : Nat} {v : V} {b off : Nat} (h : Row I w b off cs) (ha : aggOf P t = some agg) (hn : szOf P t = some n)
    (hv : ldV agg n (cs.map .d) = some v) : ∃ c, (loadVar t ⟨b, off, none⟩).run P w = .ok c w ∧ RepV ρ I w v c :=
  run_loadVar ha hn hv fun j hj => by
    simp only [List.length_map] at hj
    obtain ⟨c, h1, h2⟩ := h.2 j hj
    exact ⟨c, h1, by rw [List.getElem_map]; exact .d h2⟩
theorem OpP.load_iptr [Glb] {t : TypeId} {x : Operand} {cs : List D} {agg : Bool} {n : Nat} {v : V} (h : evO G x = .iptr cs) (ha : aggOf P t = some agg) (hn : szOf P t = some n)
    (hv : ldV agg n (cs.map .d) = some v) : OpP P (.load t x) G σ v :=
  .of_run fun o ho ρ I a w _ hg => by
    obtain ⟨b, off, hr, he⟩ := (evO_rep hg (x := x) (by simp [Op.operands])).toIptr h
    obtain ⟨c, h1, h2⟩ := run_loadIptr (ρ := ρ) hr ha hn hv
    exact ⟨c, by simp [execOp, ho, Instr.loadAt, Instr.sureAddr, he, h1], h2⟩
theorem HeapOk.cells [Glb] (hh : HeapOk σ ρ I w) {o : Nat} {x : Own} (ho : σ o = some x) {b : Nat} (hb : ρ o = some b) {i : Nat} {row : List V} (hr : x.rows[i]? = some row) (j : Nat) :
    ∀ jj (h : jj < (row.drop j).length), ∃ c, cellAt w b (i * x.k + j + jj) = some c ∧ RepV ρ I w (row.drop j)[jj] c := by
  intro jj h
  obtain ⟨b', c, e, h1, h2, h3, h4, h5⟩ := hh.own o x ho
  rw [hb] at h1; cases h1
  obtain ⟨hi, rfl⟩ := List.getElem?_eq_some_iff.1 hr
  simp only [List.length_drop] at h
  obtain ⟨hk, h6⟩ := h5 i hi
  have hj : j + jj < x.rows[i].length := by omega
  have hlt : i * x.k + (j + jj) < c.size := by
    have : (i + 1) * x.k ≤ x.rows.length * x.k := Nat.mul_le_mul_right _ hi
    rw [Nat.add_mul, Nat.one_mul] at this
    omega
  refine ⟨c.getD (i * x.k + (j + jj)) undef, ?_, by rw [List.getElem_drop]; exact h6 (j + jj) hj⟩
  rw [Nat.add_assoc]
  simp only [cellAt, World.cell?]
  have h2' : w.heap[b]? = some (Go.Obj.cells c e (0, 0)) := h2
  rw [h2']
  simp [Array.getD_eq_getD_getElem?, hlt]
theorem OpP.load_ptr [Glb] {t : TypeId} {x : Operand} {o k i j : Nat} {ow : Own} {row : List V} {agg : Bool} {n : Nat} {v : V} (h : evO G x = .ptr o k i j) (hσ : σ o = some ow) (hk : ow.k = k) (hr : ow.rows[i]? = some row)
    (ha : aggOf P t = some agg) (hn : szOf P t = some n) (hv : ldV agg n (row.drop j) = some v) : OpP P (.load t x) G σ v :=
  .of_run fun o' ho ρ I a w hh hg => by
    obtain ⟨b, hb, he⟩ := (evO_rep hg (x := x) (by simp [Op.operands])).toPtr h
    subst hk
    obtain ⟨c, h1, h2⟩ := run_loadVar (ρ := ρ) (I := I) (w := w) (b := b) (off := i * ow.k + j) ha hn hv (hh.cells hσ hb hr j)
    exact ⟨c, by simp [execOp, ho, Instr.loadAt, Instr.sureAddr, he, h1], h2⟩
theorem add_addr (b off n : Nat) : (⟨b, off, none⟩ : Addr).add n = ⟨b, off + n, none⟩ := by
  unfold Addr.add; split
  · next h => subst h; rfl
  · rfl
theorem run_fieldAt {s : TypeId} {f off n : Nat} {ft : TypeId} {b o : Nat} (hf : fldOf P s f = some (off, ft)) (hn : szOf P ft = some n) (h0 : n ≠ 0) :
    (Instr.fieldAt s (.pointer (some ⟨b, o, none⟩)) f).run P w = .ok (.pointer (some ⟨b, o + off, none⟩)) w := by
  obtain ⟨fs, x, hu, hx, rfl, rfl⟩ := run_fldOf hf
  simp [Instr.fieldAt, underlying, hu, hx, Instr.sureAddr, fieldPlace, run_szOf hn, h0, add_addr]
theorem OpP.fieldAddr_ptr [Glb] {s : TypeId} {x : Operand} {f off n : Nat} {ft : TypeId} {o k i j : Nat} (h : evO G x = .ptr o k i j) (hf : fldOf P s f = some (off, ft)) (hn : szOf P ft = some n) (h0 : n ≠ 0) :
    OpP P (.fieldAddr s x f) G σ (.ptr o k i (j + off)) :=
  .of_run fun o' ho ρ I a w _ hg => by
    obtain ⟨b, hb, he⟩ := (evO_rep hg (x := x) (by simp [Op.operands])).toPtr h
    exact ⟨.pointer (some ⟨b, i * k + j + off, none⟩), by simp [execOp, ho, he, run_fieldAt hf hn h0], by rw [Nat.add_assoc]; exact .ptr hb⟩
theorem OpP.fieldAddr_iptr [Glb] {s : TypeId} {x : Operand} {f off n : Nat} {ft : TypeId} {cs : List D} (h : evO G x = .iptr cs) (hf : fldOf P s f = some (off, ft)) (hn : szOf P ft = some n) (h0 : n ≠ 0) :
    OpP P (.fieldAddr s x f) G σ (.iptr (cs.drop off)) :=
  .of_run fun o' ho ρ I a w _ hg => by
    obtain ⟨b, o, hr, he⟩ := (evO_rep hg (x := x) (by simp [Op.operands])).toIptr h
    exact ⟨_, by simp [execOp, ho, he, run_fieldAt hf hn h0], .iptr (hr.drop off)⟩
theorem OpP.field [Glb] {s : TypeId} {x : Operand} {f off n : Nat} {ft : TypeId} {cs : List V} {agg : Bool} {v : V} (h : evO G x = .agg cs) (hf : fldOf P s f = some (off, ft)) (hn : szOf P ft = some n) (ha : aggOf P ft = some agg)
    (hv : ldV agg n (cs.drop off) = some v) : OpP P (.field s x f) G σ v :=
  .of_run fun o' ho ρ I a w _ hg => by
    obtain ⟨vs, he, hs, hr⟩ := (evO_rep hg (x := x) (by simp [Op.operands])).toAgg h
    obtain ⟨fs, y, hu, hx, rfl, rfl⟩ := run_fldOf hf
    cases agg with
    | true =>
      simp only [ldV, if_true] at hv
      split at hv
      · next hle =>
        cases hv
        simp only [List.length_drop] at hle
        refine ⟨.agg (vs.extract y.offset (y.offset + n)), by simp [execOp, ho, he, Instr.field, underlying, hu, hx, part, asAgg, run_aggOf ha, run_szOf hn], .agg (by simp; omega) (fun i hi => ?_)⟩
        have hi' : i < n := by simp at hi; omega
        have := hr (y.offset + i) (by simp at hi; omega)
        simp only [List.getElem_take, List.getElem_drop]
        rw [Array.getD_eq_getD_getElem?, Array.getElem?_extract, if_pos (by omega), ← Array.getD_eq_getD_getElem?]
        exact this
      · cases hv
    | false =>
      simp only [ldV, Bool.false_eq_true, if_false] at hv
      have hlt : y.offset < cs.length := by
        rcases Nat.lt_or_ge y.offset cs.length with h | h
        · exact h
        · rw [List.drop_eq_nil_of_le h] at hv; cases hv
      rw [List.head?_drop, List.getElem?_eq_getElem hlt] at hv
      cases hv
      have hlt' : y.offset < vs.size := by omega
      refine ⟨vs[y.offset], by simp [execOp, ho, he, Instr.field, underlying, hu, hx, part, asAgg, run_aggOf ha, hlt'], ?_⟩
      have := hr y.offset hlt
      rw [Array.getD_eq_getD_getElem?, Array.getElem?_eq_getElem hlt'] at this
      exact this
theorem OpP.indexAddr_sl [Glb] {t e : TypeId} {x ix : Operand} {xs : List (List D)} {k : IntKind} {n : Int} {s : Nat} {row : List D} (h : evO G x = .d (.sl xs)) (hi : evO G ix = .d (.val (.int k n))) (h0 : 0 ≤ n)
    (hrow : xs[n.toNat]? = some row) (he : elOf P t = some e) (hs : szOf P e = some s) (hl : row.length = s) : OpP P (.indexAddr t x ix) G σ (.iptr row) :=
  .of_run fun o' ho ρ I a w _ hg => by
    have hx := (evO_rep hg (x := x) (by simp [Op.operands])).toD h
    have hn := (evO_rep hg (x := ix) (by simp [Op.operands])).val hi
    obtain ⟨ad, cap, hv, _, hr⟩ := hx.toSl rfl
    obtain ⟨hlt, rfl⟩ := List.getElem?_eq_some_iff.1 hrow
    obtain ⟨b, off, k', rfl, hk, hR⟩ := hr n.toNat hlt
    have : s = k' := by rw [← hl]; exact hk _ (List.getElem_mem hlt)
    subst this
    have hn' : n < (xs.length : Int) := by omega
    refine ⟨.pointer (some ⟨b, off + n.toNat * s, none⟩), ?_, .iptr hR⟩
    simp [execOp, ho, hv, hn, Instr.indexAt, asIntOf, underlying, run_elOf he, run_szOf hs, h0, hn', add_addr]
theorem OpP.indexAddr_msl [Glb] {t e : TypeId} {x ix : Operand} {o k off len : Nat} {ki : IntKind} {n : Int} (h : evO G x = .msl o k off len) (hi : evO G ix = .d (.val (.int ki n))) (h0 : 0 ≤ n) (hlt : n < (len : Int))
    (he : elOf P t = some e) (hs : szOf P e = some k) : OpP P (.indexAddr t x ix) G σ (.ptr o k (off + n.toNat) 0) :=
  .of_run fun o' ho ρ I a w _ hg => by
    obtain ⟨b, cap, cs, el, hb, _, _, _, _, hv⟩ := (evO_rep hg (x := x) (by simp [Op.operands])).toMsl h
    have hn := (evO_rep hg (x := ix) (by simp [Op.operands])).val hi
    exact ⟨.pointer (some ⟨b, (off + n.toNat) * k + 0, none⟩), by simp [execOp, ho, hv, hn, Instr.indexAt, asIntOf, underlying, run_elOf he, run_szOf hs, h0, hlt, add_addr, Nat.add_mul], .ptr hb⟩
def isPtr : V → Bool
  | .ptr .. | .iptr _ => true
  | _ => false
theorem OpP.nilCheck [Glb] {x : Operand} (h : isPtr (evO G x) = true) : OpP P (.nilCheck x) G σ (evO G x) :=
  .of_run fun o' ho ρ I a w _ hg => by
    have hx := evO_rep hg (x := x) (by simp [Op.operands])
    generalize evO G x = v at h hx
    cases v with
    | ptr o k i j => obtain ⟨b, hb, he⟩ := hx.toPtr rfl; exact ⟨_, by simp [execOp, ho, he], .ptr hb⟩
    | iptr cs => obtain ⟨b, off, hr, he⟩ := hx.toIptr rfl; exact ⟨_, by simp [execOp, ho, he], .iptr hr⟩
    | _ => cases h
theorem OpP.extract [Glb] {x : Operand} {n : Nat} {cs : List V} {v : V} (h : evO G x = .tup cs) (hv : cs[n]? = some v) : OpP P (.extract x n) G σ v :=
  .of_run fun o' ho ρ I a w _ hg => by
    obtain ⟨vs, he, hs, hr⟩ := (evO_rep hg (x := x) (by simp [Op.operands])).toTup h
    obtain ⟨hn, rfl⟩ := List.getElem?_eq_some_iff.1 hv
    have hn' : n < vs.size := by omega
    refine ⟨vs[n], by simp [execOp, ho, he, Instr.extract, hn'], ?_⟩
    have := hr n hn
    rw [Array.getD_eq_getD_getElem?, Array.getElem?_eq_getElem hn'] at this
    exact this
theorem evO_reps {xs ys : Array Operand} (hg : OkOn G ρ I w a xs) (h : ∀ x ∈ ys, x ∈ xs) : ∀ i (hi : i < (ys.toList.map (evO G)).length), RepV ρ I w ((ys.toList.map (evO G))[i]) ((ys.map a.eval).getD i undef) := by
  intro i hi
  simp only [List.length_map, Array.length_toList] at hi
  rw [List.getElem_map, Array.getElem_toList, Array.getD_eq_getD_getElem?, Array.getElem?_map, Array.getElem?_eq_getElem hi]
  exact evO_rep hg (h _ (Array.getElem_mem hi))
theorem OpP.makeFunc [Glb] {f : FuncId} {caps : Array Operand} : OpP P (.makeFunc (.func f) #[] caps) G σ (.fn f (caps.toList.map (evO G))) :=
  .of_run fun o' ho ρ I a w _ hg =>
    ⟨.func (.func f) #[] (caps.map a.eval), by simp [execOp, ho, Instr.makeFunc], .fn (by simp) (evO_reps hg fun x hx => by simp [Op.operands, hx])⟩
/-! ### Reckoning on single values -/
def boolT (P : Program) (t : TypeId) : Bool := match P.underlying t with | some .bool => true | _ => false
theorem run_boolT {t : TypeId} (h : boolT P t = true) : P.underlying t = some .bool := by
  unfold boolT at h; split at h
  · assumption
  · cases h
def bop (P : Program) (t : TypeId) (op : BinOp) (x y : Value) : Option Value :=
  match op, x, y with
  | .shl, .int k a, .int _ b => if 0 ≤ b then some (.int k (k.wrap (a * 2 ^ (min b.toNat k.bits)))) else none
  | .shr, .int k a, .int _ b => if 0 ≤ b then some (.int k (a.fdiv (2 ^ (min b.toNat k.bits)))) else none
  | .add, .int k a, .int k' b => if k = k' then some (.int k (k.wrap (a + b))) else none
  | .sub, .int k a, .int k' b => if k = k' then some (.int k (k.wrap (a - b))) else none
  | .mul, .int k a, .int k' b => if k = k' then some (.int k (k.wrap (a * b))) else none
  | .quo, .int k a, .int k' b => if k = k' ∧ b ≠ 0 then some (.int k (k.wrap (a.tdiv b))) else none
  | .rem, .int k a, .int k' b => if k = k' ∧ b ≠ 0 then some (.int k (a.tmod b)) else none
  | .and, .int k a, .int k' b => if k = k' then some (.int k (k.wrap ((BitVec.ofInt k.bits a &&& BitVec.ofInt k.bits b).toNat))) else none
  | .or, .int k a, .int k' b => if k = k' then some (.int k (k.wrap ((BitVec.ofInt k.bits a ||| BitVec.ofInt k.bits b).toNat))) else none
  | .xor, .int k a, .int k' b => if k = k' then some (.int k (k.wrap ((BitVec.ofInt k.bits a ^^^ BitVec.ofInt k.bits b).toNat))) else none
  | .eql, .int k a, .int k' b => if k = k' then some (.bool (a == b)) else none
  | .neq, .int k a, .int k' b => if k = k' then some (.bool (a != b)) else none
  | .lss, .int k a, .int k' b => if k = k' then some (.bool (decide (a < b))) else none
  | .leq, .int k a, .int k' b => if k = k' then some (.bool (decide (a ≤ b))) else none
  | .gtr, .int k a, .int k' b => if k = k' then some (.bool (decide (a > b))) else none
  | .geq, .int k a, .int k' b => if k = k' then some (.bool (decide (a ≥ b))) else none
  | .add, .string a, .string b => if ((a.size + b.size : Nat) : Int) ≤ IntKind.i64.max then some (.string (a ++ b)) else none
  | .eql, .string a, .string b => some (.bool (a.toList == b.toList))
  | .neq, .string a, .string b => some (.bool (!(a.toList == b.toList)))
  | .lss, .string a, .string b => some (.bool (Op.bytesLess a.toList b.toList))
  | .leq, .string a, .string b => some (.bool (Op.bytesLess a.toList b.toList || a.toList == b.toList))
  | .gtr, .string a, .string b => some (.bool (!(Op.bytesLess a.toList b.toList || a.toList == b.toList)))
  | .geq, .string a, .string b => some (.bool (!Op.bytesLess a.toList b.toList))
  | .eql, .bool a, .bool b => if boolT P t = true then some (.bool (a == b)) else none
  | .neq, .bool a, .bool b => if boolT P t = true then some (.bool (!(a == b))) else none
  | _, _, _ => none
theorem equal_bool {t : TypeId} {x y : Bool} (h : P.underlying t = some .bool) : (Op.equal t (.bool x) (.bool y)).run P w = .ok (x == y) w := by
  show (Op.equalIn (9999 + 1) t (.bool x) (.bool y)).run P w = _
  unfold Op.equalIn
  simp [underlying, h]
theorem run_bop {t : TypeId} {op : BinOp} {x y c : Value} {ox oy : Operand} (h : bop P t op x y = some c) :
    ((do eqGuard op t ox oy x y; binOp op t x y) : Sem Value).run P w = .ok c w := by
  unfold bop at h
  split at h
  case h_26 => cases h
  all_goals (try split at h) <;> simp only [Option.some.injEq, reduceCtorEq] at h
  all_goals subst h
  all_goals (try rename_i hh)
  all_goals first
      | (simp [eqGuard, binOp, Op.shift, Op.intArith, Op.intDiv, Op.intBits, Op.intCmp, Op.stringOp]; done)
      | (simp [eqGuard, binOp, Op.shift, Op.intArith, Op.intDiv, Op.intBits, Op.intCmp, Op.stringOp, hh]; done)
      | (simp [eqGuard, binOp, Op.shift, Int.not_lt.mpr hh]; done)
      | (simp [eqGuard, binOp]; unfold Op.stringOp; simp only [gt_iff_lt, if_neg (Int.not_lt.mpr hh)]; rfl)
      | (simp [eqGuard, binOp, equal_bool (run_boolT hh)]; done)
theorem bop_ok {t : TypeId} {op : BinOp} {x y c : Value} (h : bop P t op x y = some c) : okVal c = true := by
  unfold bop at h
  split at h
  case h_26 => cases h
  all_goals (try split at h) <;> simp only [Option.some.injEq, reduceCtorEq] at h
  all_goals subst h
  all_goals first
    | rfl
    | (rename_i hh; simp only [okVal, ByteArray.size_append, decide_eq_true_eq]; have e : IntKind.i64.max = 9223372036854775807 := by decide
       rw [e] at hh; simp at hh; omega)
theorem OpP.binOp [Glb] {op : BinOp} {t yt : TypeId} {x y : Operand} {c d r : Value} (hx : evO G x = .d (.val c)) (hy : evO G y = .d (.val d)) (hr : bop P t op c d = some r) : OpP P (.binOp op t x y yt) G σ (.d (.val r)) :=
  .of_run fun o' ho ρ I a w _ hg => by
    have h1 := (evO_rep hg (x := x) (by simp [Op.operands])).val hx
    have h2 := (evO_rep hg (x := y) (by simp [Op.operands])).val hy
    refine ⟨r, ?_, .d (.val r (bop_ok hr))⟩
    simp only [execOp, ho, h1, h2, Sem.run_bind, run_bop hr, Result.andThen_ok, Sem.run_pure]
def uop (op : UnOp) (x : Value) : Option Value :=
  match op, x with
  | .neg, .int k n => some (.int k (k.wrap (0 - n)))
  | .xor, .int k n => some (.int k (k.wrap ((BitVec.ofInt k.bits (if k.signed then -1 else k.max) ^^^ BitVec.ofInt k.bits n).toNat)))
  | .not, .bool b => some (.bool !b)
  | _, _ => none
theorem OpP.unOp [Glb] {op : UnOp} {t : TypeId} {x : Operand} {c r : Value} (hx : evO G x = .d (.val c)) (hr : uop op c = some r) : OpP P (.unOp op t x) G σ (.d (.val r)) :=
  .of_run fun o' ho ρ I a w _ hg => by
    have h1 := (evO_rep hg (x := x) (by simp [Op.operands])).val hx
    unfold uop at hr
    split at hr <;> simp only [Option.some.injEq, reduceCtorEq] at hr <;> subst hr <;> refine ⟨_, ?_, .d (.val _ rfl)⟩ <;> simp [execOp, ho, h1, Op.unary, Op.intArith, Op.intBits]
def cvOf (P : Program) (src dst : TypeId) (x : Value) : Option Value :=
  match P.underlying src, P.underlying dst, x with
  | some _, some (.int k), .int _ n => some (.int k (k.wrap n))
  | some _, some .string, .string s => some (.string s)
  | _, _, _ => none
theorem OpP.convert [Glb] {src dst : TypeId} {x : Operand} {c r : Value} (hx : evO G x = .d (.val c)) (hr : cvOf P src dst c = some r) : OpP P (.convert src dst x) G σ (.d (.val r)) :=
  .of_run fun o' ho ρ I a w _ hg => by
    have h1 := (evO_rep hg (x := x) (by simp [Op.operands])).val hx
    unfold cvOf at hr
    split at hr
    · next hs hd => cases hr; refine ⟨_, ?_, .d (.val _ rfl)⟩; simp [execOp, ho, h1, Go.convert, underlying, hs, hd, Conv.intToInt]
    · next hs hd => cases hr; refine ⟨_, ?_, .d (.val _ (((evO_rep hg (x := x) (by simp [Op.operands])).toD hx).okv))⟩; simp [execOp, ho, h1, Go.convert, underlying, hs, hd]
    · cases hr
def lenV : V → Option Int
  | .d (.sl xs) => some xs.length
  | .d (.val (.string s)) => some s.size
  | .d (.val (.slice _ n _)) => some n
  | .msl _ _ _ len => some len
  | _ => none
def lenT (P : Program) (t : TypeId) (x : V) : Bool :=
  match P.underlying t, x with
  | some (.slice _), .d (.sl _) | some (.slice _), .d (.val (.slice ..)) | some (.slice _), .msl .. => true
  | some .string, .d (.val (.string _)) => true
  | _, _ => false
theorem run_len {t ty : TypeId} {x : V} {c : Value} {n : Int} (h : RepV ρ I w x c) (ht : lenT P t x = true) (hn : lenV x = some n) : (Builtin.len_ #[t] ty #[c]).run P w = .ok (.int .i64 n) w := by
  unfold lenT at ht
  split at ht
  · next hu =>
    obtain ⟨a, cap, rfl, _⟩ := (h.toD rfl).toSl rfl
    simp only [lenV, Option.some.injEq] at hn; subst hn
    simp [Builtin.len_, underlying, hu, goInt]
  · next hu =>
    rw [h.val rfl]
    simp only [lenV, Option.some.injEq] at hn; subst hn
    simp [Builtin.len_, underlying, hu, goInt]
  · next hu =>
    obtain ⟨b, cap, cs, el, _, _, _, _, _, rfl⟩ := h.toMsl rfl
    simp only [lenV, Option.some.injEq] at hn; subst hn
    simp [Builtin.len_, underlying, hu, goInt]
  · next hu =>
    rw [h.val rfl]
    simp only [lenV, Option.some.injEq] at hn; subst hn
    simp [Builtin.len_, underlying, hu, goInt]
  · cases ht
theorem OpP.len [Glb] {x : Operand} {t : TypeId} {n : Int} (ht : lenT P t (evO G x) = true) (hn : lenV (evO G x) = some n) :
    OpP P (.call { callee := .builtin .len, args := #[x], argTypes := #[t] }) G σ (.d (.val (.int .i64 n))) :=
  .of_run fun o' ho ρ I a w _ hg => by
    have h1 := evO_rep hg (x := x) (by simp [Op.operands, Call.operands])
    refine ⟨.int .i64 n, ?_, .d (.val _ rfl)⟩
    simp [execOp, ho, resolve, invoke, builtin, run_len h1 ht hn]
theorem OpP.min2 [Glb] {x y : Operand} {ts : Array TypeId} {k k' : IntKind} {m n : Int} (hx : evO G x = .d (.val (.int k m))) (hy : evO G y = .d (.val (.int k' n))) :
    OpP P (.call { callee := .builtin .min, args := #[x, y], argTypes := ts }) G σ (.d (.val (.int k (if n < m then n else m)))) :=
  .of_run fun o' ho ρ I a w _ hg => by
    have h1 := (evO_rep hg (x := x) (by simp [Op.operands, Call.operands])).val hx
    have h2 := (evO_rep hg (x := y) (by simp [Op.operands, Call.operands])).val hy
    exact ⟨_, by simp [execOp, ho, resolve, invoke, builtin, h1, h2, Builtin.min_, Builtin.min2], .d (.val _ rfl)⟩
theorem OpP.max2 [Glb] {x y : Operand} {ts : Array TypeId} {k k' : IntKind} {m n : Int} (hx : evO G x = .d (.val (.int k m))) (hy : evO G y = .d (.val (.int k' n))) :
    OpP P (.call { callee := .builtin .max, args := #[x, y], argTypes := ts }) G σ (.d (.val (.int k (if n > m then n else m)))) :=
  .of_run fun o' ho ρ I a w _ hg => by
    have h1 := (evO_rep hg (x := x) (by simp [Op.operands, Call.operands])).val hx
    have h2 := (evO_rep hg (x := y) (by simp [Op.operands, Call.operands])).val hy
    exact ⟨_, by simp [execOp, ho, resolve, invoke, builtin, h1, h2, Builtin.max_, Builtin.max2], .d (.val _ rfl)⟩
def strAt (s : ByteArray) (n : Int) : Option UInt8 := if 0 ≤ n then s[n.toNat]? else none
theorem OpP.index_str [Glb] {t : TypeId} {x ix : Operand} {s : ByteArray} {k : IntKind} {n : Int} {b : UInt8} (hx : evO G x = .d (.val (.string s))) (hi : evO G ix = .d (.val (.int k n))) (hu : P.underlying t = some .string) (hb : strAt s n = some b) :
    OpP P (.index t x ix) G σ (.d (.val (.int .u8 b.toNat))) :=
  .of_run fun o' ho ρ I a w _ hg => by
    have h1 := (evO_rep hg (x := x) (by simp [Op.operands])).val hx
    have h2 := (evO_rep hg (x := ix) (by simp [Op.operands])).val hi
    refine ⟨_, ?_, .d (.val _ rfl)⟩
    unfold strAt at hb
    simp [execOp, ho, h1, h2, Instr.index, asIntOf, underlying, hu, hb]
end
end Go.Iso
