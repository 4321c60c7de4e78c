/- The abstract layer, part C: operations that make a block, or write into one of the run's own. -/
import Derived.Test.YtngmfimpaembnaaGreatDoorIsoB
import Derived.Laws.CopyRow
import Derived.Laws.Build
namespace Go.Iso
open Go Go.RowKit
set_option linter.unusedSimpArgs false
set_option linter.unusedVariables false
def del (σ : Heap) (o : Nat) : Heap := fun m => if m = o then none else σ m
def toRow : V → List V
  | .agg cs => cs
  | v => [v]
section
variable {P : Program} {G : Nat → V} {σ σ1 : Heap} {ρ ρ' : Nat → Option Nat} {I I' : Nat → Prop} {w w' : World} {a : Act}
structure ArrRep (ρ : Nat → Option Nat) (I : Nat → Prop) (w : World) (k : Nat) (rows : List (List V)) (c : Array Value) : Prop where
  size : rows.length * k ≤ c.size
  row : ∀ i (hi : i < rows.length), rows[i].length = k
  rep : ∀ i (hi : i < rows.length) j (hj : j < rows[i].length), RepV ρ I w rows[i][j] (c.getD (i * k + j) undef)
theorem put_block [Glb] {id b : Nat} {c : Array Value} {e : TypeId} {x : Own} (hh : HeapOk σ ρ I w) (hσ : ∀ o y, σ1 o = some y → σ o = some y) (hno : ∀ o y, σ1 o = some y → ρ o ≠ some b)
    (hb : Owns σ ρ b ∨ w.heap.size ≤ b) (hid : ∀ b', ρ id = some b' → b' = b) (hI : ¬ I b)
    (hos : w'.os = w.os) (htape : w'.tape = w.tape) (hout : w'.output = w.output) (hsize : w.heap.size ≤ w'.heap.size)
    (hkept : ∀ b', b' < w.heap.size → b' ≠ b → w'.heap[b']? = w.heap[b']?) (hblk : Blk w' b c e) (hold : ∀ (c0 : Array Value) e0, Blk w b c0 e0 → c0.size = c.size ∧ e0 = e)
    (hrep : ArrRep ρ I w x.k x.rows c) :
    Step σ ρ I w (upd σ1 id (some x)) (upd ρ id (some b)) I w' ∧ HeapOk (upd σ1 id (some x)) (upd ρ id (some b)) I w' := by
  have hids : ∀ o b', ρ o = some b' → upd ρ id (some b) o = some b' := by
    intro o b' h
    by_cases ho : o = id
    · subst ho; rw [upd_same, hid b' h]
    · rw [upd_ne _ _ ho]; exact h
  have hsz : ∀ b' (c' : Array Value) (e' : TypeId), Blk w b' c' e' → ∃ c'' : Array Value, Blk w' b' c'' e' ∧ c''.size = c'.size := by
    intro b' c' e' h
    by_cases hbb : b' = b
    · subst hbb; obtain ⟨h1, rfl⟩ := hold c' e' h; exact ⟨c, hblk, h1.symm⟩
    · exact ⟨c', h.of_eq (hkept b' h.lt hbb), rfl⟩
  have hs : Step σ ρ I w (upd σ1 id (some x)) (upd ρ id (some b)) I w' := by
    refine ⟨⟨hos, htape, hout, hsize, fun b' h1 h2 => ?_, hsz, fun b' ⟨o, y, h1, h2⟩ => ?_, fun _ h => h, fun _ h => .inl h⟩, hids⟩
    · rcases hb with hb | hb
      · exact hkept b' h1 (fun e => h2 (e ▸ hb))
      · exact hkept b' h1 (by omega)
    · by_cases ho : o = id
      · subst ho; rw [upd_same] at h2; cases h2; exact hb
      · rw [upd_ne _ _ ho] at h1 h2; exact .inl ⟨o, y, hσ o y h1, h2⟩
  refine ⟨hs, ?_, ?_, hh.keep hs.toKept fun b' h => Nat.lt_of_lt_of_le (hh.lt b' h) hsize⟩
  · intro o y ho
    by_cases hoi : o = id
    · subst hoi
      rw [upd_same] at ho; cases ho
      exact ⟨b, c, e, upd_same _ _ _, hblk, hrep.size, hI, fun i hi => ⟨hrep.row i hi, fun j hj => hs.rep hh (hrep.rep i hi j hj)⟩⟩
    · rw [upd_ne _ _ hoi] at ho
      obtain ⟨b', c', e', h1, h2, h3, h4, h5⟩ := hh.own o y (hσ o y ho)
      have hbb : b' ≠ b := fun h => hno o y ho (h ▸ h1)
      exact ⟨b', c', e', by rw [upd_ne _ _ hoi]; exact h1, h2.of_eq (hkept b' h2.lt hbb), h3, h4, fun i hi => ⟨(h5 i hi).1, fun j hj => hs.rep hh ((h5 i hi).2 j hj)⟩⟩
  · intro o o' y y' b' h1 h2 h3 h4
    by_cases ho : o = id <;> by_cases ho' : o' = id
    · rw [ho, ho']
    · subst ho; rw [upd_same] at h3; cases h3; rw [upd_ne _ _ ho'] at h2 h4; exact absurd h4 (hno o' y' h2)
    · subst ho'; rw [upd_same] at h4; cases h4; rw [upd_ne _ _ ho] at h1 h3; exact absurd h3 (hno o y h1)
    · rw [upd_ne _ _ ho] at h1 h3; rw [upd_ne _ _ ho'] at h2 h4
      exact hh.inj o o' y y' b' (hσ _ _ h1) (hσ _ _ h2) h3 h4
def OpW [Glb] (P : Program) (op : Op) (G : Nat → V) (σ : Heap) (N id : Nat) (v : V) (σ' : Heap) : Prop :=
  ∀ (o : Oper), o.op = op → ∀ ρ I a w, HeapOk σ ρ I w → (∀ m, N ≤ m → ρ m = none) → ρ id = none → OkOn G ρ I w a op.operands → ∀ (K : Act → World → Prop) (Q : Exit → Act → World → Prop),
    (∀ c ρ' I' w', Step σ ρ I w σ' ρ' I' w' → HeapOk σ' ρ' I' w' → (∀ x, x ≠ id → ρ' x = ρ x) → RepV ρ' I' w' v c → K (a.put o.dst c) w') → o.wp P a w K Q
theorem OpP.opW [Glb] {op : Op} {v : V} (h : OpP P op G σ v) (N id : Nat) : OpW P op G σ N id v σ :=
  fun o ho ρ I a w hh _ _ hg K Q hK => h o ho ρ I a w hh hg K Q fun c I' w' p hv => hK c ρ I' w' p.step (hh.pure p) (fun _ _ => rfl) hv
theorem OpW.of_value [Glb] {op : Op} {N id : Nat} {v : V} {σ' : Heap} (h : ∀ (o : Oper), o.op = op → ∀ ρ I a w, HeapOk σ ρ I w → ρ id = none → OkOn G ρ I w a op.operands →
    ∃ c ρ' w', (execOp a.eval o).run P w = .ok (.value c) w' ∧ Step σ ρ I w σ' ρ' I w' ∧ HeapOk σ' ρ' I w' ∧ (∀ x, x ≠ id → ρ' x = ρ x) ∧ RepV ρ' I w' v c) : OpW P op G σ N id v σ' := by
  intro o ho ρ I a w hh _ hid hg K Q hK
  obtain ⟨c, ρ', w', hr, h1, h2, h3, h4⟩ := h o ho ρ I a w hh hid hg
  show o.upon P a K Q ((execOp a.eval o).run P w)
  rw [hr]
  exact hK c ρ' I w' h1 h2 h3 h4
theorem OpW.of_skip [Glb] {op : Op} {N id : Nat} {σ' : Heap} (h : ∀ (o : Oper), o.op = op → ∀ ρ I a w, HeapOk σ ρ I w → ρ id = none → OkOn G ρ I w a op.operands →
    ∃ ρ' w', (execOp a.eval o).run P w = .ok .skip w' ∧ Step σ ρ I w σ' ρ' I w' ∧ HeapOk σ' ρ' I w' ∧ (∀ x, x ≠ id → ρ' x = ρ x)) : OpW P op G σ N id .any σ' := by
  intro o ho ρ I a w hh _ hid hg K Q hK
  obtain ⟨ρ', w', hr, h1, h2, h3⟩ := h o ho ρ I a w hh hid hg
  show o.upon P a K Q ((execOp a.eval o).run P w)
  rw [hr]
  exact hK undef ρ' I w' h1 h2 h3 (.any _)
theorem OpW.forget [Glb] {op : Op} {N id : Nat} {v : V} {σ' σ'' : Heap} (h : OpW P op G σ N id v σ') (hs : ∀ o x, σ'' o = some x → σ' o = some x) : OpW P op G σ N id v σ'' :=
  fun o ho ρ I a w hh hN hid hg K Q hK => h o ho ρ I a w hh hN hid hg K Q fun c ρ' I' w' st hh' hx hv =>
    hK c ρ' I' w' ⟨st.toKept.owns (fun b ⟨o, x, h1, h2⟩ => ⟨o, x, hs o x h1, h2⟩), st.ids⟩ (hh'.forget hs) hx hv
theorem HeapOk.new [Glb] (hh : HeapOk σ ρ I w) {id k : Nat} {rows : List (List V)} {c : Array Value} (e : TypeId) (hid : ρ id = none) (hr : ArrRep ρ I w k rows c) (n : Nat) :
    let w' : World := { w with heap := w.heap.push (.cells c e), drawn := n }
    Step σ ρ I w (upd σ id (some ⟨k, rows⟩)) (upd ρ id (some w.heap.size)) I w' ∧ HeapOk (upd σ id (some ⟨k, rows⟩)) (upd ρ id (some w.heap.size)) I w' ∧ Blk w' w.heap.size c e := by
  intro w'
  have hb : Blk w' w.heap.size c e := by simp [Blk, w']
  have := put_block (w' := w') (σ1 := σ) (id := id) (b := w.heap.size) (e := e) (x := ⟨k, rows⟩) hh (fun _ _ h => h) (fun o y h hr => by
      have := hh.owns_lt ⟨o, y, h, hr⟩; omega) (.inr (Nat.le_refl _)) (fun b' h => by rw [hid] at h; cases h) (fun h => absurd (hh.lt _ h) (by omega))
      rfl rfl rfl (by simp [w']) (fun b' h _ => by simp [w', Array.getElem?_push, Nat.ne_of_lt h]) hb (fun c0 e0 h => absurd h.lt (by omega)) hr
  exact ⟨this.1, this.2, hb⟩
theorem upd_ids {id b : Nat} : ∀ x, x ≠ id → upd ρ id (some b) x = ρ x := fun x h => upd_ne _ _ h
theorem ArrRep.one {vs : List V} {c : Array Value} (hs : c.size = vs.length) (h : ∀ i (hi : i < vs.length), RepV ρ I w vs[i] (c.getD i undef)) : ArrRep ρ I w vs.length [vs] c where
  size := by simp [hs]
  row := fun i hi => by simp
  rep := fun i hi j hj => by
    have : i = 0 := by simp at hi; exact hi
    subst this
    simp only [List.getElem_cons_zero] at hj ⊢
    simpa using h j hj
theorem RepV.row {v : V} {c : Value} (h : RepV ρ I w v c) (hv : v.one = true ∨ ∃ cs, v = .agg cs) : c.cells.size = (toRow v).length ∧ ∀ i (hi : i < (toRow v).length), RepV ρ I w (toRow v)[i] (c.cells.getD i undef) := by
  rcases hv with hv | ⟨cs, rfl⟩
  · have h1 := h.one hv
    have hc : c.cells = #[c] := by cases c <;> first | rfl | (simp [Value.oneCell'] at h1)
    have ht : toRow v = [v] := by cases v <;> first | rfl | (simp [V.one] at hv)
    rw [hc, ht]
    refine ⟨rfl, fun i hi => ?_⟩
    have : i = 0 := by simp at hi; exact hi
    subst this
    exact h
  · obtain ⟨vs, rfl, hs, hr⟩ := h.toAgg rfl
    exact ⟨hs, hr⟩
def rowOk (v : V) : Bool := v.one || (match v with | .agg _ => true | _ => false)
theorem rowOk_or {v : V} (h : rowOk v = true) : v.one = true ∨ ∃ cs, v = .agg cs := by
  cases v <;> simp_all [rowOk, V.one]
def zOf (P : Program) (t : TypeId) : Option Value := (P.info? t).bind (·.zero)
theorem run_zOf {t : TypeId} {z : Value} (h : zOf P t = some z) : (zeroValue t).run P w = .ok z w := by
  unfold zOf at h
  cases hi : P.info? t with
  | none => simp [hi] at h
  | some i => simp only [hi, Option.bind_some] at h; simp [zeroValue, typeInfo, hi, h]
theorem OpW.alloc [Glb] {t : TypeId} {z : Value} {N id : Nat} (hz : zOf P t = some z) (hk : rowOk (constV z) = true) :
    OpW P (.alloc t) G σ N id (.ptr id (toRow (constV z)).length 0 0) (upd σ id (some ⟨(toRow (constV z)).length, [toRow (constV z)]⟩)) :=
  .of_value fun o ho ρ I a w hh hid _ => by
    obtain ⟨hs, hr⟩ := (constV_rep (ρ := ρ) (I := I) (w := w) z).row (rowOk_or hk)
    obtain ⟨h1, h2, _⟩ := hh.new t hid (ArrRep.one hs hr) w.drawn
    refine ⟨.pointer (some ⟨w.heap.size, 0, none⟩), _, _, ?_, h1, h2, upd_ids, ?_⟩
    · simp [execOp, ho, Instr.alloc, run_zOf hz, newVar, newRow]
    · have := RepV.ptr (ρ := upd ρ id (some w.heap.size)) (I := I) (w := { w with heap := w.heap.push (.cells z.cells t), drawn := w.drawn }) (o := id) (k := (toRow (constV z)).length) (i := 0) (j := 0) (upd_same _ _ _)
      simpa using this
theorem OpW.box [Glb] {t : TypeId} {x : Operand} {N id : Nat} (hk : rowOk (evO G x) = true) :
    OpW P (.box t x) G σ N id (.ptr id (toRow (evO G x)).length 0 0) (upd σ id (some ⟨(toRow (evO G x)).length, [toRow (evO G x)]⟩)) :=
  .of_value fun o ho ρ I a w hh hid hg => by
    obtain ⟨hs, hr⟩ := (evO_rep hg (x := x) (by simp [Op.operands])).row (rowOk_or hk)
    obtain ⟨h1, h2, _⟩ := hh.new t hid (ArrRep.one hs hr) w.drawn
    refine ⟨.pointer (some ⟨w.heap.size, 0, none⟩), _, _, ?_, h1, h2, upd_ids, ?_⟩
    · simp [execOp, ho, Instr.box, newVar, newRow]
    · have := RepV.ptr (ρ := upd ρ id (some w.heap.size)) (I := I) (w := { w with heap := w.heap.push (.cells (a.eval x).cells t), drawn := w.drawn }) (o := id) (k := (toRow (evO G x)).length) (i := 0) (j := 0) (upd_same _ _ _)
      simpa using this
def putRow (row : List V) (j : Nat) (vs : List V) : List V := row.take j ++ vs ++ row.drop (j + vs.length)
theorem getD_toArray_append (l1 vs l2 : List Value) (i : Nat) : ((l1 ++ vs ++ l2).toArray).getD i undef = if i < l1.length then l1.getD i undef else if i < l1.length + vs.length then vs.getD (i - l1.length) undef else l2.getD (i - l1.length - vs.length) undef := by
  simp only [Array.getD_eq_getD_getElem?, List.getElem?_toArray, List.getD_eq_getElem?_getD, List.append_assoc, List.getElem?_append]
  split
  · rfl
  · split
    · rw [if_pos (by omega)]
    · rw [if_neg (by omega)]
theorem HeapOk.write [Glb] (hh : HeapOk σ ρ I w) {o b : Nat} {x : Own} {c : Array Value} {e : TypeId} (ho : σ o = some x) (hb : ρ o = some b) (hblk : Blk w b c e) {x' : Own} {c' : Array Value} (hs : c'.size = c.size) (hr : ArrRep ρ I w x'.k x'.rows c') :
    Step σ ρ I w (upd σ o (some x')) ρ I (w.setRow b c') ∧ HeapOk (upd σ o (some x')) ρ I (w.setRow b c') := by
  have hρ : upd ρ o (some b) = ρ := by
    funext m; by_cases h : m = o
    · rw [h, upd_same, hb]
    · rw [upd_ne _ _ h]
  have hσ : upd (del σ o) o (some x') = upd σ o (some x') := by
    funext m; by_cases h : m = o
    · rw [h, upd_same, upd_same]
    · rw [upd_ne _ _ h, upd_ne _ _ h, del, if_neg h]
  have hI : ¬ I b := fun h => hh.notOwned h ⟨o, x, ho, hb⟩
  have := put_block (w' := w.setRow b c') (σ1 := del σ o) (id := o) (b := b) (e := e) (c := c') (x := x') hh (fun m y h => by
      by_cases hm : m = o
      · simp [del, hm] at h
      · simpa [del, hm] using h) (fun m y h hr => by
      by_cases hm : m = o
      · simp [del, hm] at h
      · exact hm (hh.inj m o y x b (by simpa [del, hm] using h) ho hr hb)) (.inl ⟨o, x, ho, hb⟩) (fun b' h => by rw [hb] at h; cases h; rfl) hI
      rfl rfl rfl (by simp [World.setRow]) (fun b' h1 h2 => by simp [World.setRow, Array.getElem?_modify, Ne.symm h2]) (setRow_heap w b c c' e (0, 0) hblk)
      (fun c0 e0 h => by unfold Blk at h hblk; rw [hblk] at h; cases h; exact ⟨hs.symm, rfl⟩) hr
  rw [hρ, hσ] at this
  exact this
theorem HeapOk.arr [Glb] (hh : HeapOk σ ρ I w) {o b : Nat} {x : Own} (ho : σ o = some x) (hb : ρ o = some b) : ∃ c e, Blk w b c e ∧ ¬ I b ∧ ArrRep ρ I w x.k x.rows c := by
  obtain ⟨b', c, e, h1, h2, h3, h4, h5⟩ := hh.own o x ho
  rw [hb] at h1; cases h1
  exact ⟨c, e, h2, h4, h3, fun i hi => (h5 i hi).1, fun i hi => (h5 i hi).2⟩
theorem ArrRep.put {k : Nat} {rows : List (List V)} {c : Array Value} (h : ArrRep ρ I w k rows c) {i j : Nat} {row vs : List V} (hr : rows[i]? = some row) (hj : j + vs.length ≤ k) {cs : List Value} (hc : cs.length = vs.length)
    (hv : ∀ m (hm : m < vs.length), RepV ρ I w vs[m] (cs.getD m undef)) :
    ArrRep ρ I w k (rows.set i (putRow row j vs)) (c.toList.take (i * k + j) ++ cs ++ c.toList.drop (i * k + j + cs.length)).toArray := by
  obtain ⟨hi, rfl⟩ := List.getElem?_eq_some_iff.1 hr
  have hk := h.row i hi
  have hsz := h.size
  have hle : (i + 1) * k ≤ c.size := Nat.le_trans (Nat.mul_le_mul_right _ hi) hsz
  rw [Nat.add_mul, Nat.one_mul] at hle
  have hlen : (putRow rows[i] j vs).length = k := by simp [putRow]; omega
  refine ⟨by simp; omega, fun m hm => ?_, fun m hm jj hjj => ?_⟩
  · rw [List.getElem_set]; split
    · exact hlen
    · exact h.row m (by simpa using hm)
  · have hm' : m < rows.length := by simpa using hm
    rw [getD_toArray_append]
    have hl1 : (c.toList.take (i * k + j)).length = i * k + j := by simp; omega
    rw [hl1]
    have hget : ∀ n, (c.toList).getD n undef = c.getD n undef := fun n => by simp [List.getD_eq_getElem?_getD, Array.getD_eq_getD_getElem?]
    by_cases hmi : m = i
    · subst hmi
      have hjk : jj < k := by rw [List.getElem_set_self] at hjj; omega
      simp only [List.getElem_set_self]
      rcases Nat.lt_or_ge jj j with h1 | h1
      · rw [if_pos (by omega)]
        have e1 : (putRow rows[m] j vs)[jj]'(by omega) = rows[m][jj]'(by omega) := by
          simp only [putRow, List.append_assoc]
          rw [List.getElem_append_left (by simp; omega), List.getElem_take]
        rw [e1]
        have e2 : (c.toList.take (m * k + j)).getD (m * k + jj) undef = c.getD (m * k + jj) undef := by
          rw [← hget, List.getD_eq_getElem?_getD, List.getD_eq_getElem?_getD, List.getElem?_take, if_pos (by omega)]
        rw [e2]; exact h.rep m hi jj (by omega)
      · rw [if_neg (by omega)]
        rcases Nat.lt_or_ge jj (j + vs.length) with h2 | h2
        · rw [if_pos (by omega)]
          have e1 : (putRow rows[m] j vs)[jj]'(by omega) = vs[jj - j]'(by omega) := by
            simp only [putRow, List.append_assoc]
            rw [List.getElem_append_right (by simp; omega), List.getElem_append_left (by simp; omega)]
            congr 1; simp; omega
          rw [e1, show m * k + jj - (m * k + j) = jj - j by omega]
          exact hv _ (by omega)
        · rw [if_neg (by omega)]
          have e1 : (putRow rows[m] j vs)[jj]'(by omega) = rows[m][jj]'(by omega) := by
            simp only [putRow]
            rw [List.getElem_append_right (by simp; omega), List.getElem_drop]
            congr 1; simp; omega
          rw [e1]
          have e2 : (c.toList.drop (m * k + j + cs.length)).getD (m * k + jj - (m * k + j) - cs.length) undef = c.getD (m * k + jj) undef := by
            rw [← hget, List.getD_eq_getElem?_getD, List.getD_eq_getElem?_getD, List.getElem?_drop]
            congr 2; omega
          rw [e2]; exact h.rep m hi jj (by omega)
    · have hjj' : jj < rows[m].length := by rw [List.getElem_set_ne (Ne.symm hmi)] at hjj; exact hjj
      have hkm := h.row m hm'
      simp only [List.getElem_set_ne (Ne.symm hmi)]
      have hrep := h.rep m hm' jj hjj'
      rcases Nat.lt_or_ge m i with h1 | h1
      · have : (m + 1) * k ≤ i * k := Nat.mul_le_mul_right _ h1
        rw [Nat.add_mul, Nat.one_mul] at this
        rw [if_pos (by omega)]
        have e2 : (c.toList.take (i * k + j)).getD (m * k + jj) undef = c.getD (m * k + jj) undef := by
          rw [← hget, List.getD_eq_getElem?_getD, List.getD_eq_getElem?_getD, List.getElem?_take, if_pos (by omega)]
        rw [e2]; exact hrep
      · have : (i + 1) * k ≤ m * k := Nat.mul_le_mul_right _ (by omega)
        rw [Nat.add_mul, Nat.one_mul] at this
        rw [if_neg (by omega), if_neg (by omega)]
        have e2 : (c.toList.drop (i * k + j + cs.length)).getD (m * k + jj - (i * k + j) - cs.length) undef = c.getD (m * k + jj) undef := by
          rw [← hget, List.getD_eq_getElem?_getD, List.getD_eq_getElem?_getD, List.getElem?_drop]
          congr 2; omega
        rw [e2]; exact hrep
theorem OpW.store [Glb] {t : TypeId} {x y : Operand} {o k i j n : Nat} {ow : Own} {row : List V} {N id : Nat} (h : evO G x = .ptr o k i j) (hσ : σ o = some ow) (hk : ow.k = k) (hr : ow.rows[i]? = some row)
    (hn : szOf P t = some n) (hy : rowOk (evO G y) = true) (h1 : ∀ v ∈ toRow (evO G y), v.one = true) (hl : (toRow (evO G y)).length = n) (hj : j + n ≤ k) :
    OpW P (.store t x y) G σ N id .any (upd σ o (some ⟨k, ow.rows.set i (putRow row j (toRow (evO G y)))⟩)) :=
  .of_skip fun o' ho ρ I a w hh hid hg => by
    subst hk
    obtain ⟨b, hb, he⟩ := (evO_rep hg (x := x) (by simp [Op.operands])).toPtr h
    obtain ⟨hs, hv⟩ := (evO_rep hg (x := y) (by simp [Op.operands])).row (rowOk_or hy)
    obtain ⟨c, e, hblk, hI, hA⟩ := hh.arr hσ hb
    have hget : ∀ m, ((a.eval y).cells.toList).getD m undef = (a.eval y).cells.getD m undef := fun m => by simp [List.getD_eq_getElem?_getD, Array.getD_eq_getD_getElem?]
    have hA' := hA.put hr (by omega : j + (toRow (evO G y)).length ≤ ow.k) (cs := (a.eval y).cells.toList) (by simpa using hs) (fun m hm => by rw [hget]; exact hv m hm)
    obtain ⟨hi, rfl⟩ := List.getElem?_eq_some_iff.1 hr
    have hle : (i + 1) * ow.k ≤ c.size := Nat.le_trans (Nat.mul_le_mul_right _ hi) hA.size
    rw [Nat.add_mul, Nat.one_mul] at hle
    have hcl : (a.eval y).cells.toList.length = (toRow (evO G y)).length := by simpa using hs
    have hrun := run_storeCells_at (P := P) b (i * ow.k + j) e (a.eval y).cells.toList 0 c w hblk (by omega) (fun v hv' => by
      obtain ⟨m, hm, rfl⟩ := List.getElem_of_mem hv'
      have hm2 : m < (toRow (evO G y)).length := by omega
      have := (hv m hm2).one (h1 _ (List.getElem_mem hm2))
      rw [← hget, List.getD_eq_getElem?_getD, List.getElem?_eq_getElem hm] at this
      exact this)
    obtain ⟨h1', h2'⟩ := hh.write hσ hb hblk (c' := (c.toList.take (i * ow.k + j) ++ (a.eval y).cells.toList ++ c.toList.drop (i * ow.k + j + (a.eval y).cells.toList.length)).toArray) (by simp; omega) (x' := ⟨ow.k, ow.rows.set i (putRow ow.rows[i] j (toRow (evO G y)))⟩) hA'
    refine ⟨ρ, _, ?_, h1', h2', fun _ _ => rfl⟩
    have hn' : (a.eval y).cells.size = n := by omega
    have hr2 : (storeVar t ⟨b, i * ow.k + j, none⟩ (a.eval y)).run P w = .ok () (w.setRow b (c.toList.take (i * ow.k + j) ++ (a.eval y).cells.toList ++ c.toList.drop (i * ow.k + j + (a.eval y).cells.toList.length)).toArray) := by
      simp only [storeVar, Sem.run_bind, run_szOf hn, Result.andThen_ok, hn', ne_eq, not_true, if_false]
      exact hrun
    simp only [execOp, ho, he, Instr.storeAt, Instr.sureAddr, pure_bind, Sem.run_bind, hr2, Result.andThen_ok, Sem.run_pure]
end
end Go.Iso
