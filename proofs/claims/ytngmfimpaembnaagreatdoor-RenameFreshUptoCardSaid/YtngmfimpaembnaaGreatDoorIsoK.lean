/- The abstract layer, part K: building structs and slices, append, make, slicing. -/
import Derived.Test.YtngmfimpaembnaaGreatDoorIsoD
namespace Go.Iso
open Go Go.RowKit
set_option linter.unusedSimpArgs false
set_option linter.unusedVariables false
section
variable {P : Program} {G : Nat → V} {σ σ' : Heap} {ρ ρ' : Nat → Option Nat} {I I' : Nat → Prop} {w w' : World} {a : Act}
/-! ### Writing a value's cells into an array -/
theorem foldl_set_list (off : Nat) : ∀ (vs : List Value) (k : Nat) (l : List Value), off + k + vs.length ≤ l.length →
    (vs.zipIdx k).foldl (fun cs (p : Value × Nat) => cs.set (off + p.2) p.1) l = l.take (off + k) ++ vs ++ l.drop (off + k + vs.length)
  | [], k, l, h => by simp
  | v :: vs, k, l, h => by
    simp only [List.length_cons] at h
    rw [List.zipIdx_cons, List.foldl_cons, foldl_set_list off vs (k + 1) _ (by simp; omega)]
    have h1 : (l.set (off + k) v).take (off + (k + 1)) = l.take (off + k) ++ [v] := by
      rw [show off + (k + 1) = off + k + 1 by omega, List.take_add_one, List.take_set_of_le (Nat.le_refl _), List.getElem?_set_self (by omega)]; rfl
    have h2 : (l.set (off + k) v).drop (off + (k + 1) + vs.length) = l.drop (off + k + (vs.length + 1)) := by
      rw [List.drop_set_of_lt (by omega)]; congr 1; omega
    simp only [h1, h2, List.length_cons, List.append_assoc, List.singleton_append, List.cons_append, List.nil_append]
theorem foldl_set_arr (off : Nat) : ∀ (ps : List (Value × Nat)) (cs : Array Value), (ps.foldl (fun cs (p : Value × Nat) => cs.setIfInBounds (off + p.2) p.1) cs).toList = ps.foldl (fun l (p : Value × Nat) => l.set (off + p.2) p.1) cs.toList
  | [], cs => rfl
  | p :: ps, cs => by rw [List.foldl_cons, List.foldl_cons, foldl_set_arr off ps]; simp
theorem foldl_set (vs : Array Value) (off : Nat) (cells : Array Value) (h : off + vs.size ≤ cells.size) :
    vs.zipIdx.foldl (fun cs (p : Value × Nat) => cs.setIfInBounds (off + p.2) p.1) cells = (cells.toList.take off ++ vs.toList ++ cells.toList.drop (off + vs.size)).toArray := by
  apply Array.ext'
  rw [← Array.foldl_toList, foldl_set_arr]
  have := foldl_set_list off vs.toList 0 cells.toList (by simpa using h)
  simpa using this
theorem run_mapM_list {α β : Type} (g : α → Sem β) (g' : α → β) : ∀ (l : List α), (∀ x ∈ l, ∀ w, (g x).run P w = .ok (g' x) w) → (l.mapM g).run P w = .ok (l.map g') w
  | [], _ => by simp
  | x :: l, h => by
    simp only [List.mapM_cons, Sem.run_bind, h x (by simp), Result.andThen_ok, run_mapM_list g g' l (fun y hy => h y (by simp [hy])), Sem.run_pure, List.map_cons]
theorem run_mapM {α β : Type} (g : α → Sem β) (g' : α → β) (l : Array α) (h : ∀ x ∈ l, ∀ w, (g x).run P w = .ok (g' x) w) : (l.mapM g).run P w = .ok (l.map g') w := by
  rw [Array.mapM_eq_mapM_toList, Sem.run_map, run_mapM_list g g' l.toList (fun x hx => h x (by simpa using hx))]
  simp only [Result.andThen_ok, Result.ok.injEq, and_true]
  apply Array.ext'; simp
def plOf (P : Program) (t : TypeId) (i : Nat) : Option (Nat × Nat) := 
  match fldOf P t i with
  | some (off, ft) => (match szOf P ft with | some n => some (off, n) | none => none)
  | none => none
def stOk (P : Program) (t : TypeId) : Bool := match P.underlying t with | some (.struct fs) => fs.all fun f => (szOf P f.type).isSome | _ => false
def bldV (P : Program) (t : TypeId) : List (Nat × V) → List V → Option (List V)
  | [], cs => some cs
  | (i, v) :: r, cs => match plOf P t i with
    | some (off, n) => if rowOk v = true ∧ (toRow v).length = n ∧ off + n ≤ cs.length then bldV P t r (putRow cs off (toRow v)) else none
    | none => none
theorem fill_struct {t : TypeId} {place : Nat → Option (Nat × Nat)} (hpl : ∀ i off n, plOf P t i = some (off, n) → place i = some (off, n)) :
    ∀ (ps : List (Nat × Operand)) (cs out : List V) (c : Array Value), bldV P t (ps.map fun p => (p.1, evO G p.2)) cs = some out → (∀ p ∈ ps, RepV ρ I w (evO G p.2) (a.eval p.2)) →
      c.size = cs.length → (∀ i (hi : i < cs.length), RepV ρ I w cs[i] (c.getD i undef)) →
      ∃ c', Instr.fill place c (ps.map fun p => (p.1, a.eval p.2)) = some c' ∧ c'.size = out.length ∧ ∀ i (hi : i < out.length), RepV ρ I w out[i] (c'.getD i undef)
  | [], cs, out, c, h, _, hs, hr => by
    simp only [List.map_nil, bldV, Option.some.injEq] at h; subst h
    exact ⟨c, rfl, hs, hr⟩
  | (i, x) :: ps, cs, out, c, h, hx, hs, hr => by
    simp only [List.map_cons, bldV] at h
    split at h
    · next off n hp =>
      split at h
      · next hc =>
        obtain ⟨h1, h2, h3⟩ := hc
        obtain ⟨k1, k2⟩ := (hx (i, x) (by simp)).row (rowOk_or h1)
        have hput := ArrRep.put (ArrRep.one hs hr) (i := 0) (j := off) (row := cs) (vs := toRow (evO G x)) rfl (by omega) (cs := (a.eval x).cells.toList) (by simpa using k1) (fun m hm => by
          have := k2 m hm
          rw [Array.getD_eq_getD_getElem?] at this
          simpa [List.getD_eq_getElem?_getD] using this)
        simp only [Nat.zero_mul, Nat.zero_add, List.set_cons_zero] at hput
        have hlen : (putRow cs off (toRow (evO G x))).length = cs.length := by simp [putRow]; omega
        have hsz2 : (a.eval x).cells.size = n := k1.trans h2
        obtain ⟨c', e1, e2, e3⟩ := fill_struct hpl ps _ out (c.toList.take off ++ (a.eval x).cells.toList ++ c.toList.drop (off + (a.eval x).cells.toList.length)).toArray h (fun p hp => hx p (by simp [hp])) (by simp; omega)
          (fun j hj => by
            have := hput.rep 0 (by simp) j (by simpa using hj)
            simpa using this)
        refine ⟨c', ?_, e2, e3⟩
        simp only [List.map_cons, Instr.fill, hpl i off n hp]
        rw [if_neg (by simp; omega), foldl_set _ _ _ (by omega)]
        simpa using e1
      · cases h
    · cases h
theorem OpP.build [Glb] {t : TypeId} {z : Value} {parts : Array (Nat × Operand)} {out : List V} (hs : stOk P t = true) (hz : zOf P t = some z) (hk : rowOk (constV z) = true)
    (hb : bldV P t (parts.toList.map fun p => (p.1, evO G p.2)) (toRow (constV z)) = some out) : OpP P (.build t parts) G σ (.agg out) :=
  .of_run fun o ho ρ I a w hh hg => by
    unfold stOk at hs
    split at hs
    case h_2 => cases hs
    case h_1 fs hu =>
    rw [Array.all_eq_true_iff_forall_mem] at hs
    have hg' : ∀ p ∈ parts.toList, RepV ρ I w (evO G p.2) (a.eval p.2) := fun p hp => evO_rep hg (by
      simp only [Op.operands, List.mem_toArray, List.mem_map]; exact ⟨p, hp, rfl⟩)
    obtain ⟨k1, k2⟩ := (constV_rep (ρ := ρ) (I := I) (w := w) z).row (rowOk_or hk)
    have hpl : ∀ i off n, plOf P t i = some (off, n) → ((fs.map fun f => (f.offset, (szOf P f.type).getD 0))[·]?) i = some (off, n) := by
      intro i off n h
      unfold plOf at h
      split at h
      · next off' ft hf =>
        obtain ⟨fs', x, hu', hx, rfl, rfl⟩ := run_fldOf hf
        rw [hu] at hu'; cases hu'
        split at h
        · next m hm =>
          simp only [Option.some.injEq, Prod.mk.injEq] at h
          obtain ⟨rfl, rfl⟩ := h
          simp [hx, hm]
        · cases h
      · cases h
    obtain ⟨c', e1, e2, e3⟩ := fill_struct (P := P) hpl parts.toList (toRow (constV z)) out z.cells hb hg' k1 k2
    refine ⟨.agg c', ?_, .agg e2 e3⟩
    have hmap : (fs.mapM fun f => (do pure (f.offset, ← sizeOf f.type) : Sem (Nat × Nat))).run P w = .ok (fs.map fun f => (f.offset, (szOf P f.type).getD 0)) w := by
      refine run_mapM _ _ fs fun f hf w' => ?_
      have := hs f hf
      cases hsz : szOf P f.type with
      | none => simp [hsz] at this
      | some n => simp only [Sem.run_bind, run_szOf hsz, Result.andThen_ok, Sem.run_pure, Option.getD_some]
    have hparts : (parts.map fun (p : Nat × Operand) => (p.1, a.eval p.2)).toList = parts.toList.map fun p => (p.1, a.eval p.2) := by simp
    simp only [execOp, ho, Instr.build, Sem.run_bind, run_zOf hz, Result.andThen_ok, run_underlying hu]
    simp only [Sem.run_bind, hmap, Result.andThen_ok]
    rw [hparts, e1]
    simp
/-! ### Slices that are built -/
def asDs : List V → Option (List D)
  | [] => some []
  | .d x :: r => (asDs r).map (x :: ·)
  | _ :: _ => none
def asRows : List (List V) → Option (List (List D))
  | [] => some []
  | r :: rs => match asDs r, asRows rs with
    | some d, some ds => some (d :: ds)
    | _, _ => none
theorem asDs_spec : ∀ {r : List V} {ds : List D}, asDs r = some ds → r = ds.map .d
  | [], ds, h => by simp only [asDs, Option.some.injEq] at h; subst h; rfl
  | v :: r, ds, h => by
    cases v with
    | d x =>
      simp only [asDs] at h
      cases hr : asDs r with
      | none => simp [hr] at h
      | some d => simp only [hr, Option.map_some, Option.some.injEq] at h; subst h; rw [asDs_spec hr]; rfl
    | _ => simp [asDs] at h
theorem asRows_spec : ∀ {rs : List (List V)} {ds : List (List D)}, asRows rs = some ds → rs = ds.map (·.map .d)
  | [], ds, h => by simp only [asRows, Option.some.injEq] at h; subst h; rfl
  | r :: rs, ds, h => by
    simp only [asRows] at h
    cases h1 : asDs r with
    | none => simp [h1] at h
    | some d =>
      cases h2 : asRows rs with
      | none => simp [h1, h2] at h
      | some d2 => simp only [h1, h2, Option.some.injEq] at h; subst h; rw [asDs_spec h1, asRows_spec h2]; rfl
def inOrder : Nat → List (Nat × Operand) → Bool
  | _, [] => true
  | i, p :: r => p.1 == i && inOrder (i + 1) r
theorem fill_slice (n : Nat) : ∀ (ps : List (Nat × Operand)) (i len : Nat) (rows : List (List V)) (c : Array Value), inOrder i ps = true → i + ps.length = len → ArrRep ρ I w n rows c → rows.length = len → c.size = len * n →
    (∀ p ∈ ps, RepV ρ I w (evO G p.2) (a.eval p.2) ∧ rowOk (evO G p.2) = true ∧ (toRow (evO G p.2)).length = n) →
    ∃ c', Instr.fill (fun i => some (i * n, n)) c (ps.map fun p => (p.1, a.eval p.2)) = some c' ∧ c'.size = len * n ∧ ArrRep ρ I w n (rows.take i ++ ps.map fun p => toRow (evO G p.2)) c'
  | [], i, len, rows, c, _, hlen, hA, hr, hs, _ => by
    simp only [List.length_nil, Nat.add_zero] at hlen
    refine ⟨c, rfl, hs, ?_⟩
    rw [List.map_nil, List.append_nil, List.take_of_length_le (by omega)]; exact hA
  | p :: ps, i, len, rows, c, ho, hlen, hA, hr, hs, hp => by
    simp only [inOrder, Bool.and_eq_true, beq_iff_eq] at ho
    simp only [List.length_cons] at hlen
    obtain ⟨h1, h2, h3⟩ := hp p (by simp)
    obtain ⟨k1, k2⟩ := h1.row (rowOk_or h2)
    have hi : i < rows.length := by omega
    have hput := hA.put (i := i) (j := 0) (row := rows[i]) (vs := toRow (evO G p.2)) (List.getElem?_eq_getElem hi) (by omega) (cs := (a.eval p.2).cells.toList) (by simpa using k1) (fun m hm => by
      have := k2 m hm
      rw [Array.getD_eq_getD_getElem?] at this
      simpa [List.getD_eq_getElem?_getD] using this)
    have hrow : putRow rows[i] 0 (toRow (evO G p.2)) = toRow (evO G p.2) := by
      simp only [putRow, List.take_zero, List.nil_append, Nat.zero_add]
      rw [List.drop_eq_nil_of_le (by rw [hA.row i hi]; omega), List.append_nil]
    rw [hrow, Nat.add_zero] at hput
    have hle : (i + 1) * n ≤ len * n := Nat.mul_le_mul_right _ (by omega)
    rw [Nat.add_mul, Nat.one_mul] at hle
    have hsz2 : (a.eval p.2).cells.size = n := by omega
    obtain ⟨c', e1, e2, e3⟩ := fill_slice n ps (i + 1) len _ (c.toList.take (i * n) ++ (a.eval p.2).cells.toList ++ c.toList.drop (i * n + (a.eval p.2).cells.toList.length)).toArray ho.2 (by omega) hput (by simpa using hr) (by simp; omega) (fun q hq => hp q (by simp [hq]))
    refine ⟨c', ?_, e2, ?_⟩
    · simp only [List.map_cons, Instr.fill, ho.1]
      rw [if_neg (by simp; omega), foldl_set _ _ _ (by omega)]
      simpa using e1
    · have : (rows.set i (toRow (evO G p.2))).take (i + 1) = rows.take i ++ [toRow (evO G p.2)] := by
        rw [List.take_add_one, List.take_set_of_le (Nat.le_refl _), List.getElem?_set_self hi]; rfl
      rw [this] at e3
      simpa using e3
def sliceRows (G : Nat → V) (parts : List (Nat × Operand)) : List (List V) := parts.map fun p => toRow (evO G p.2)
theorem run_buildSlice {t e : TypeId} {n len : Nat} {z : Value} {parts : Array (Nat × Operand)} (he : elOf P t = some e) (hn : szOf P e = some n) (hn0 : n ≠ 0) (hz : zOf P e = some z) (hk : rowOk (constV z) = true) (hkl : (toRow (constV z)).length = n)
    (hord : inOrder 0 parts.toList = true) (hlen : parts.toList.length = len) (hsm : len * n ≤ 2 ^ 24)
    (hrows : ∀ p ∈ parts.toList, rowOk (evO G p.2) = true ∧ (toRow (evO G p.2)).length = n) (hg : ∀ p ∈ parts.toList, RepV ρ I w (evO G p.2) (a.eval p.2)) :
    ∃ c, (Instr.buildSlice t len (parts.map fun (p : Nat × Operand) => (p.1, a.eval p.2))).run P w = .ok (.slice (some ⟨w.heap.size, 0, none⟩) len len) { w with heap := w.heap.push (.cells c e) } ∧
      ArrRep ρ I w n (sliceRows G parts.toList) c ∧ c.size = len * n := by
  have hparts : (parts.map fun (p : Nat × Operand) => (p.1, a.eval p.2)).toList = parts.toList.map fun p => (p.1, a.eval p.2) := by simp
  obtain ⟨k1, k2⟩ := (constV_rep (ρ := ρ) (I := I) (w := w) z).row (rowOk_or hk)
  have hzs : z.cells.size = n := by omega
  by_cases h0 : len = 0
  · subst h0
    have hp : parts.toList = [] := List.eq_nil_of_length_eq_zero hlen
    refine ⟨#[], ?_, ⟨by simp [sliceRows, hp], fun i hi => absurd hi (by simp [sliceRows, hp]), fun i hi => absurd hi (by simp [sliceRows, hp])⟩, by simp⟩
    simp only [Instr.buildSlice, Sem.run_bind, run_underlying (run_elOf he), Result.andThen_ok, run_szOf hn, Nat.zero_mul, hparts, hp]
    have hz0 : Array.map (fun _ => (default : Value)) (Array.range 0) = #[] := by apply Array.ext'; simp
    simp [Instr.fill, newRow]
    rw [hz0]
  · have hne : ¬ len * n = 0 := Nat.mul_ne_zero h0 hn0
    let c0 : Array Value := (Array.range (len * n)).map (z.cells[· % z.cells.size]!)
    have hA : ArrRep ρ I w n (List.replicate len (toRow (constV z))) c0 := by
      refine ⟨by simp [c0], fun i hi => by rw [List.getElem_replicate]; exact hkl, fun i hi j hj => ?_⟩
      simp only [List.getElem_replicate] at hj ⊢
      simp only [List.length_replicate] at hi
      have hj' : j < n := by omega
      have hlt : i * n + j < len * n := by
        have : (i + 1) * n ≤ len * n := Nat.mul_le_mul_right _ hi
        rw [Nat.add_mul, Nat.one_mul] at this; omega
      have e1 : c0.getD (i * n + j) undef = z.cells.getD j undef := by
        simp only [c0, Array.getD_eq_getD_getElem?, Array.getElem?_map, Array.getElem?_range, hlt, if_true, Option.map_some, Option.getD_some, hzs]
        rw [Nat.add_comm, Nat.add_mul_mod_self_right, Nat.mod_eq_of_lt hj']
        simp [hzs, hj']
      rw [e1]; exact k2 j (by omega)
    obtain ⟨c', e1, e2, e3⟩ := fill_slice (G := G) (a := a) n parts.toList 0 len _ c0 hord (by omega) hA (by simp) (by simp [c0]) (fun p hp => ⟨hg p hp, (hrows p hp).1, (hrows p hp).2⟩)
    refine ⟨c', ?_, by simpa [sliceRows] using e3, e2⟩
    simp only [Instr.buildSlice, Sem.run_bind, run_underlying (run_elOf he), Result.andThen_ok, run_szOf hn]
    rw [if_neg (by omega), if_neg hne]
    simp only [Sem.run_bind, run_zOf hz, Result.andThen_ok, Sem.run_pure]
    rw [hparts]
    have : Instr.fill (fun i => some (i * n, n)) (Array.map (fun x => z.cells[x % z.cells.size]!) (Array.range (len * n))) (parts.toList.map fun p => (p.1, a.eval p.2)) = some c' := e1
    rw [this]
    simp [newRow]
theorem parts_mem {t : TypeId} {len : Nat} {parts : Array (Nat × Operand)} (hg : OkOn G ρ I w a (Op.buildSlice t len parts).operands) : ∀ p ∈ parts.toList, RepV ρ I w (evO G p.2) (a.eval p.2) :=
  fun p hp => evO_rep hg (by simp only [Op.operands, List.mem_toArray, List.mem_map]; exact ⟨p, hp, rfl⟩)
theorem OpW.buildSlice [Glb] {t e : TypeId} {n len : Nat} {z : Value} {parts : Array (Nat × Operand)} {N id : Nat} (he : elOf P t = some e) (hn : szOf P e = some n) (hn0 : n ≠ 0) (hz : zOf P e = some z) (hk : rowOk (constV z) = true) (hkl : (toRow (constV z)).length = n)
    (hord : inOrder 0 parts.toList = true) (hlen : parts.toList.length = len) (hsm : len * n ≤ 2 ^ 24) (hrows : ∀ p ∈ parts.toList, rowOk (evO G p.2) = true ∧ (toRow (evO G p.2)).length = n) :
    OpW P (.buildSlice t len parts) G σ N id (.msl id n 0 len) (upd σ id (some ⟨n, sliceRows G parts.toList⟩)) :=
  .of_value fun o ho ρ I a w hh hid hg => by
    obtain ⟨c, hr, hA, hc⟩ := run_buildSlice (a := a) (ρ := ρ) (I := I) (w := w) he hn hn0 hz hk hkl hord hlen hsm hrows (parts_mem hg)
    obtain ⟨h1, h2, h3⟩ := hh.new e hid hA w.drawn
    refine ⟨_, _, _, by simp only [execOp, ho, Sem.run_bind]; rw [show (Array.map (fun x => match x with | (i, x) => (i, a.eval x)) parts) = parts.map fun (p : Nat × Operand) => (p.1, a.eval p.2) from rfl, hr]; rfl, h1, h2, upd_ids, ?_⟩
    have hle : len ≤ 16777216 := by
      have : len * 1 ≤ len * n := Nat.mul_le_mul_left _ (by omega)
      omega
    have := RepV.msl (ρ := upd ρ id (some w.heap.size)) (I := I) (o := id) (k := n) (off := 0) (len := len) (cap := len) (upd_same _ _ _) h3 (by rw [Nat.zero_add]; omega) (Nat.le_refl _) (by omega)
    simpa using this
theorem OpP.buildSlice [Glb] {t e : TypeId} {n len : Nat} {z : Value} {parts : Array (Nat × Operand)} {ds : List (List D)} (he : elOf P t = some e) (hn : szOf P e = some n) (hn0 : n ≠ 0) (hz : zOf P e = some z) (hk : rowOk (constV z) = true) (hkl : (toRow (constV z)).length = n)
    (hord : inOrder 0 parts.toList = true) (hlen : parts.toList.length = len) (hsm : len * n ≤ 2 ^ 24) (hrows : ∀ p ∈ parts.toList, rowOk (evO G p.2) = true ∧ (toRow (evO G p.2)).length = n) (hds : asRows (sliceRows G parts.toList) = some ds) :
    OpP P (.buildSlice t len parts) G σ (.d (.sl ds)) := by
  intro o ho ρ I a w hh hg K Q hK
  obtain ⟨c, hr, hA, hc⟩ := run_buildSlice (a := a) (ρ := ρ) (I := I) (w := w) he hn hn0 hz hk hkl hord hlen hsm hrows (parts_mem hg)
  show o.upon P a K Q ((execOp a.eval o).run P w)
  have hrun : (execOp a.eval o).run P w = .ok (.value (.slice (some ⟨w.heap.size, 0, none⟩) len len)) { w with heap := w.heap.push (.cells c e) } := by
    simp only [execOp, ho, Sem.run_bind]
    rw [show (Array.map (fun x => match x with | (i, x) => (i, a.eval x)) parts) = parts.map fun (p : Nat × Operand) => (p.1, a.eval p.2) from rfl, hr]; rfl
  rw [hrun]
  have hspec := asRows_spec hds
  have hdl : ds.length = len := by have := congrArg List.length hspec; simp [sliceRows] at this; simp at hlen; omega
  have hle : len ≤ 16777216 := by
    have : len * 1 ≤ len * n := Nat.mul_le_mul_left _ (by omega)
    omega
  refine hK _ (fun b => I b ∨ b = w.heap.size) _ ⟨⟨rfl, rfl, rfl, by simp, fun k hk => by simp [Array.getElem?_push, Nat.ne_of_lt hk]⟩, fun b h => .inl h, fun b h => h.imp id (fun h => by omega), fun b h => ?_⟩ (.d ?_)
  · rcases h with h | h
    · have := hh.lt b h; simp; omega
    · simp; omega
  · rw [hspec] at hA
    have hdn : ∀ i (hi : i < ds.length), ds[i].length = n := fun i hi => by
      have := hA.row i (by simpa using hi); simpa using this
    subst hdl
    refine .sl w.heap.size 0 ds.length n ds (fun i j => c.getD (i * n + j) undef) (.inr rfl) (Nat.le_refl _) (by omega) (fun row hm => ?_) (fun i j hi hj => ?_) (fun i j hi hj => ?_)
    · obtain ⟨i, hi, rfl⟩ := List.getElem_of_mem hm; exact hdn i hi
    · have hlt : i * n + j < c.size := by
        have : (i + 1) * n ≤ ds.length * n := Nat.mul_le_mul_right _ hi
        rw [Nat.add_mul, Nat.one_mul] at this
        have := hdn i hi; omega
      simp [cellAt, World.cell?, Array.getD_eq_getD_getElem?, hlt]
    · have := hA.rep i (by simpa using hi) j (by simpa using hj)
      simp only [List.getElem_map] at this
      exact (this.toD rfl).mono (fun b h => .inl h) (fun b hb => by have := hh.lt b hb; simp [Array.getElem?_push, Nat.ne_of_lt this])
end
end Go.Iso
