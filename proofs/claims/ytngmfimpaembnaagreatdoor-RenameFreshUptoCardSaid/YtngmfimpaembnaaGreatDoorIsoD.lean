/- The abstract layer, part D: calls: contracts of functions. -/
import Derived.Test.YtngmfimpaembnaaGreatDoorIsoC
namespace Go.Iso
open Go Go.RowKit
set_option linter.unusedSimpArgs false
set_option linter.unusedVariables false
mutual
/-- All references of a value lie in S. -/
def V.refs (S : Nat → Prop) : V → Prop
  | .any | .d _ | .iptr _ => True
  | .agg cs | .tup cs | .fn _ cs => V.refsL S cs
  | .ptr o _ _ _ | .msl o _ _ _ => S o
def V.refsL (S : Nat → Prop) : List V → Prop
  | [] => True
  | v :: r => V.refs S v ∧ V.refsL S r
end
section
variable {P : Program} {G : Nat → V} {σ σ' : Heap} {ρ ρ' : Nat → Option Nat} {I I' : Nat → Prop} {w w' : World} {a : Act}
theorem V.refsL_get {S : Nat → Prop} : ∀ {cs : List V}, V.refsL S cs → ∀ i (hi : i < cs.length), V.refs S cs[i]
  | [], _, i, hi => absurd hi (Nat.not_lt_zero i)
  | v :: r, h, 0, _ => by unfold V.refsL at h; exact h.1
  | v :: r, h, i + 1, hi => by unfold V.refsL at h; exact V.refsL_get h.2 i (by simpa using hi)
theorem RepV.reid {S : Nat → Prop} {v : V} {c : Value} (h : RepV ρ I w v c) (hv : v.refs S) (hS : ∀ o b, S o → ρ o = some b → ρ' o = some b) : RepV ρ' I w v c := by
  induction h with
  | any c => exact .any c
  | d h => exact .d h
  | agg hn _ ih => unfold V.refs at hv; exact .agg hn fun i hi => ih i hi (V.refsL_get hv i hi)
  | tup hn _ ih => unfold V.refs at hv; exact .tup hn fun i hi => ih i hi (V.refsL_get hv i hi)
  | ptr h => unfold V.refs at hv; exact .ptr (hS _ _ hv h)
  | iptr h => exact .iptr h
  | msl h hb hs hl hm => unfold V.refs at hv; exact .msl (hS _ _ hv h) hb hs hl hm
  | fn hn _ ih => unfold V.refs at hv; exact .fn hn fun i hi => ih i hi (V.refsL_get hv i hi)
def NoRef : Nat → Prop := fun _ => False
structure RepAll (ρ : Nat → Option Nat) (I : Nat → Prop) (w : World) (vs : List V) (cs : Array Value) : Prop where
  size : cs.size = vs.length
  rep : ∀ i (hi : i < vs.length), RepV ρ I w vs[i] (cs.getD i undef)
def Callable (P : Program) (f : FuncId) : Prop := ∀ args w, (callFunc f args).run P w = .ok (.enter f args) w
def Cn [Glb] (P : Program) (f : FuncId) (args : List V) (v : V) : Prop :=
  Callable P f ∧ ∀ I w cargs, Base I w → RepAll (fun _ => none) I w args cargs →
    Calls P f cargs w fun e w' => ∃ c I', e = .returned c ∧ Pure I w I' w' ∧ RepV (fun _ => none) I' w' v c
def CallS [Glb] (P : Program) (f : FuncId) (args : List V) (σ : Heap) (N id : Nat) (v : V) (σ' : Heap) : Prop :=
  Callable P f ∧ ∀ ρ I w cargs, HeapOk σ ρ I w → (∀ m, N ≤ m → ρ m = none) → ρ id = none → RepAll ρ I w args cargs →
    Calls P f cargs w fun e w' => ∃ c ρ' I', e = .returned c ∧ Step σ ρ I w σ' ρ' I' w' ∧ HeapOk σ' ρ' I' w' ∧ (∀ x, x ≠ id → ρ' x = ρ x) ∧ RepV ρ' I' w' v c
theorem RepAll.append {vs us : List V} {cs ds : Array Value} (h : RepAll ρ I w vs cs) (k : RepAll ρ I w us ds) : RepAll ρ I w (vs ++ us) (cs ++ ds) where
  size := by simp [h.size, k.size]
  rep := fun i hi => by
    rw [Array.getD_eq_getD_getElem?, Array.getElem?_append, h.size]
    by_cases hlt : i < vs.length
    · rw [if_pos hlt, List.getElem_append_left hlt, ← Array.getD_eq_getD_getElem?]; exact h.rep i hlt
    · rw [if_neg hlt, List.getElem_append_right (by omega), ← Array.getD_eq_getD_getElem?]; exact k.rep _ _
theorem exec_call {o : Oper} {x : Operand} {xs : Array Operand} {ts : Array TypeId} {f : FuncId} {caps : List V} (ho : o.op = .call { callee := .value x, args := xs, argTypes := ts })
    (hg : OkOn G ρ I w a o.op.operands) (hx : evO G x = .fn f caps) (hc : Callable P f) :
    ∃ cargs, (execOp a.eval o).run P w = .ok (.enter f cargs) w ∧ RepAll ρ I w (xs.toList.map (evO G) ++ caps) cargs := by
  obtain ⟨vs, he, hs, hr⟩ := (evO_rep hg (x := x) (by simp [ho, Op.operands, Call.operands])).toFn hx
  refine ⟨xs.map a.eval ++ vs, ?_, RepAll.append ⟨by simp, evO_reps hg fun y hy => by simp [ho, Op.operands, Call.operands, hy]⟩ ⟨hs, hr⟩⟩
  simp only [execOp, ho, resolve, he, Deferred.ofValue, invoke, Array.empty_append, pure_bind]
  exact hc _ _
/-! ### Own blocks read as data: for a call that only reads, or for good -/
inductive NilD : D → D → Prop
  | refl (x : D) : NilD x x
  | nil (a : Option Addr) (cap : Nat) : NilD (.val (.slice a 0 cap)) (.sl [])
  | sl {xs ys : List (List D)} (hl : xs.length = ys.length) (hr : ∀ i (hi : i < xs.length) (hi' : i < ys.length), xs[i].length = ys[i].length)
      (h : ∀ i j (hi : i < xs.length) (hi' : i < ys.length) (hj : j < xs[i].length) (hj' : j < ys[i].length), NilD xs[i][j] ys[i][j]) : NilD (.sl xs) (.sl ys)
theorem RepD.nilD {x y : D} (h : NilD x y) : ∀ {c : Value}, RepD I w x c → RepD I w y c := by
  induction h with
  | refl x => exact fun h => h
  | nil a cap => intro c h; cases h; exact .nil a cap
  | @sl xs ys hl hr _ ih =>
    intro c h
    cases h with
    | nil a cap =>
      have : ys = [] := List.eq_nil_of_length_eq_zero (by simpa using hl.symm)
      subst this; exact .nil a cap
    | sl b off cap k _ f hb hc hm hk hf hrr =>
      rw [hl]
      refine .sl b off cap k ys f hb (by omega) hm (fun row hm => ?_) (fun i j hi hj => ?_) (fun i j hi hj => ?_)
      · obtain ⟨i, hi, rfl⟩ := List.getElem_of_mem hm
        rw [← hr i (by omega) hi]; exact hk _ (List.getElem_mem _)
      · exact hf i j (by omega) (by rw [hr i (by omega) hi]; exact hj)
      · exact ih i j (by omega) hi (by rw [hr i (by omega) hi]; exact hj) hj (hrr i j (by omega) (by rw [hr i (by omega) hi]; exact hj))
def NilL : List D → List D → Prop
  | [], [] => True
  | x :: r, y :: s => NilD x y ∧ NilL r s
  | _, _ => False
theorem NilL.get : ∀ {r s : List D}, NilL r s → r.length = s.length ∧ ∀ j (hj : j < r.length) (hj' : j < s.length), NilD r[j] s[j]
  | [], [], _ => ⟨rfl, fun i hi => absurd hi (Nat.not_lt_zero i)⟩
  | x :: r, y :: s, h => by
    unfold NilL at h
    obtain ⟨h1, h2⟩ := NilL.get h.2
    refine ⟨by simp [h1], fun j hj hj' => ?_⟩
    cases j with
    | zero => exact h.1
    | succ j => exact h2 j (by simpa using hj) (by simpa using hj')
  | [], _ :: _, h => h.elim
  | _ :: _, [], h => h.elim
theorem NilD.one {r s : List D} (h : NilL r s) : NilD (.sl [r]) (.sl [s]) :=
  .sl rfl (fun i hi hi' => by
    have : i = 0 := by simp at hi; exact hi
    subst this; exact h.get.1) fun i j hi hi' hj hj' => by
    have : i = 0 := by simp at hi; exact hi
    subst this; exact h.get.2 j hj hj'
inductive SealD (σ : Heap) : V → D → Prop
  | d (x : D) : SealD σ (.d x) x
  | dn {x y : D} (h : NilD x y) : SealD σ (.d x) y
  | nil (a : Option Addr) (cap : Nat) : SealD σ (.d (.val (.slice a 0 cap))) (.sl [])
  | msl {o k off : Nat} {x : Own} {ds : List (List D)} (ho : σ o = some x) (hk : x.k = k) (hl : off + ds.length ≤ x.rows.length)
      (hr : ∀ i (hi : i < ds.length), (x.rows.getD (off + i) []).length = ds[i].length)
      (hs : ∀ i j (hi : i < ds.length) (hj : j < ds[i].length), SealD σ ((x.rows.getD (off + i) []).getD j .any) ds[i][j]) : SealD σ (.msl o k off ds.length) (.sl ds)
inductive SealV (σ : Heap) : V → V → Prop
  | any (v : V) : SealV σ v .any
  | same (v : V) : SealV σ v v
  | d {v : V} {x : D} (h : SealD σ v x) : SealV σ v (.d x)
  | ptr {o k i : Nat} {x : Own} {row : List V} {ds : List D} (ho : σ o = some x) (hk : x.k = k) (hr : x.rows[i]? = some row) (hl : row.length = ds.length) (h : ∀ j (hj : j < row.length) (hj' : j < ds.length), SealD σ row[j] ds[j]) : SealV σ (.ptr o k i 0) (.iptr ds)
  | agg {cs ds : List V} (hl : cs.length = ds.length) (h : ∀ i (hi : i < cs.length) (hj : i < ds.length), SealV σ cs[i] ds[i]) : SealV σ (.agg cs) (.agg ds)
  | tup {cs ds : List V} (hl : cs.length = ds.length) (h : ∀ i (hi : i < cs.length) (hj : i < ds.length), SealV σ cs[i] ds[i]) : SealV σ (.tup cs) (.tup ds)
  | fn {f : FuncId} {cs ds : List V} (hl : cs.length = ds.length) (h : ∀ i (hi : i < cs.length) (hj : i < ds.length), SealV σ cs[i] ds[i]) : SealV σ (.fn f cs) (.fn f ds)
def SealAll (σ : Heap) : List V → List V → Prop
  | [], [] => True
  | v :: r, v' :: r' => SealV σ v v' ∧ SealAll σ r r'
  | _, _ => False
theorem SealD.rep [Glb] (hh : HeapOk σ ρ I w) {v : V} {x : D} (h : SealD σ v x) : ∀ {c : Value}, RepV ρ I w v c → RepD (fun b => I b ∨ Owns σ ρ b) w x c := by
  induction h with
  | d x => exact fun hv => (hv.toD rfl).mono (fun _ h => .inl h) (fun _ _ => rfl)
  | dn h => exact fun hv => ((hv.toD rfl).nilD h).mono (fun _ h => .inl h) (fun _ _ => rfl)
  | nil a cap => intro c hv; rw [hv.val rfl]; exact .nil a cap
  | @msl o k off x ds ho hk hl hr hs ih =>
    intro c hv
    obtain ⟨b, cap, cs, el, hb, hblk, hsz, hcap, hmx, rfl⟩ := hv.toMsl rfl
    obtain ⟨c', e', hblk', hnI, hA⟩ := hh.arr ho hb
    subst hk
    have hrow : ∀ i (hi : i < ds.length), ds[i].length = x.k := fun i hi => by
      rw [← hr i hi, List.getD_eq_getElem?_getD, List.getElem?_eq_getElem (by omega), Option.getD_some]; exact hA.row _ _
    refine .sl b (off * x.k) cap x.k ds (fun i j => c'.getD ((off + i) * x.k + j) undef) (.inr ⟨o, x, ho, hb⟩) hcap hmx (fun row hm => ?_) (fun i j hi hj => ?_) (fun i j hi hj => ?_)
    · obtain ⟨i, hi, rfl⟩ := List.getElem_of_mem hm; exact hrow i hi
    · have hj' : j < x.k := by rw [← hrow i hi]; exact hj
      have hlt : (off + i) * x.k + j < c'.size := by
        have h1 : (off + i + 1) * x.k ≤ x.rows.length * x.k := Nat.mul_le_mul_right _ (by omega)
        rw [Nat.add_mul, Nat.one_mul] at h1
        have := hA.size; omega
      show w.cell? ⟨b, off * x.k + i * x.k + j, none⟩ = _
      have h2 : w.heap[b]? = some (Go.Obj.cells c' e' (0, 0)) := hblk'
      rw [← Nat.add_mul]
      simp [World.cell?, h2, Array.getD_eq_getD_getElem?, hlt]
    · refine ih i j hi hj ?_
      have h1 : off + i < x.rows.length := by omega
      have h2 : j < x.rows[off + i].length := by rw [hA.row _ h1, ← hrow i hi]; exact hj
      have := hA.rep (off + i) h1 j h2
      have e1 : x.rows.getD (off + i) [] = x.rows[off + i] := by rw [List.getD_eq_getElem?_getD, List.getElem?_eq_getElem h1, Option.getD_some]
      have e2 : (x.rows[off + i]).getD j .any = x.rows[off + i][j] := by rw [List.getD_eq_getElem?_getD, List.getElem?_eq_getElem h2, Option.getD_some]
      rw [e1, e2]
      exact this
theorem SealV.rep [Glb] (hh : HeapOk σ ρ I w) {v v' : V} (h : SealV σ v v') : ∀ {c : Value}, RepV ρ I w v c → RepV ρ (fun b => I b ∨ Owns σ ρ b) w v' c := by
  have up : ∀ {v : V} {c : Value}, RepV ρ I w v c → RepV ρ (fun b => I b ∨ Owns σ ρ b) w v c := fun hv => hv.mono (fun _ _ h => h) (fun _ h => .inl h) (fun _ _ => rfl) (fun _ c _ h => ⟨c, h, rfl⟩)
  induction h with
  | any v => exact fun _ => .any _
  | same v => exact up
  | d h => exact fun hv => .d (h.rep hh hv)
  | @ptr o k i x row ds ho hk hr hl h =>
    intro c hv
    obtain ⟨b, hb, rfl⟩ := hv.toPtr rfl
    obtain ⟨c', e', hblk', _, hA⟩ := hh.arr ho hb
    subst hk
    obtain ⟨hi, rfl⟩ := List.getElem?_eq_some_iff.1 hr
    refine .iptr ⟨.inr ⟨o, x, ho, hb⟩, fun j hj => ?_⟩
    have hj' : j < x.rows[i].length := by omega
    have hk' := hA.row i hi
    have hlt : i * x.k + j < c'.size := by
      have h1 : (i + 1) * x.k ≤ x.rows.length * x.k := Nat.mul_le_mul_right _ (by omega)
      rw [Nat.add_mul, Nat.one_mul] at h1
      have := hA.size; omega
    refine ⟨c'.getD (i * x.k + j) undef, ?_, (h j hj' hj).rep hh (hA.rep i hi j hj')⟩
    have h2 : w.heap[b]? = some (Go.Obj.cells c' e' (0, 0)) := hblk'
    simp [cellAt, World.cell?, h2, Array.getD_eq_getD_getElem?, hlt]
  | agg hl _ ih => intro c hv; obtain ⟨vs, rfl, h1, h2⟩ := hv.toAgg rfl; exact .agg (h1.trans hl) fun i hi => ih i (by omega) hi (h2 i (by omega))
  | tup hl _ ih => intro c hv; obtain ⟨vs, rfl, h1, h2⟩ := hv.toTup rfl; exact .tup (h1.trans hl) fun i hi => ih i (by omega) hi (h2 i (by omega))
  | fn hl _ ih => intro c hv; obtain ⟨vs, rfl, h1, h2⟩ := hv.toFn rfl; exact .fn (h1.trans hl) fun i hi => ih i (by omega) hi (h2 i (by omega))
theorem SealAll.get {σ : Heap} : ∀ {vs us : List V}, SealAll σ vs us → vs.length = us.length ∧ ∀ i (hi : i < vs.length) (hj : i < us.length), SealV σ vs[i] us[i]
  | [], [], _ => ⟨rfl, fun i hi => absurd hi (Nat.not_lt_zero i)⟩
  | v :: r, u :: s, h => by
    unfold SealAll at h
    obtain ⟨h1, h2⟩ := SealAll.get h.2
    refine ⟨by simp [h1], fun i hi hj => ?_⟩
    cases i with
    | zero => exact h.1
    | succ i => exact h2 i (by simpa using hi) (by simpa using hj)
  | [], _ :: _, h => h.elim
  | _ :: _, [], h => h.elim
theorem SealAll.rep [Glb] (hh : HeapOk σ ρ I w) {vs us : List V} {cs : Array Value} (h : SealAll σ vs us) (hr : RepAll ρ I w vs cs) : RepAll ρ (fun b => I b ∨ Owns σ ρ b) w us cs :=
  ⟨hr.size.trans h.get.1, fun i hi => (h.get.2 i (by rw [h.get.1]; exact hi) hi).rep hh (hr.rep i (by rw [h.get.1]; exact hi))⟩
theorem SealAll.refl {σ : Heap} : ∀ vs : List V, SealAll σ vs vs
  | [] => trivial
  | v :: r => ⟨.same v, SealAll.refl r⟩
mutual
/-- A value without slices and references. -/
def V.flat : V → Prop
  | .any | .d (.val _) => True
  | .agg cs | .tup cs => V.flatL cs
  | _ => False
def V.flatL : List V → Prop
  | [] => True
  | v :: r => V.flat v ∧ V.flatL r
end
theorem V.flatL_get : ∀ {cs : List V}, V.flatL cs → ∀ i (hi : i < cs.length), V.flat cs[i]
  | [], _, i, hi => absurd hi (Nat.not_lt_zero i)
  | v :: r, h, 0, _ => by unfold V.flatL at h; exact h.1
  | v :: r, h, i + 1, hi => by unfold V.flatL at h; exact V.flatL_get h.2 i (by simpa using hi)
theorem RepV.flat {v : V} {c : Value} (h : RepV ρ I w v c) (hv : v.flat) : RepV ρ' I' w' v c := by
  induction h with
  | any c => exact .any c
  | @d x c h =>
    cases x with
    | val c' => cases h with | val _ h => exact .d (.val _ h)
    | sl xs => unfold V.flat at hv; exact hv.elim
  | agg hn _ ih => unfold V.flat at hv; exact .agg hn fun i hi => ih i hi (V.flatL_get hv i hi)
  | tup hn _ ih => unfold V.flat at hv; exact .tup hn fun i hi => ih i hi (V.flatL_get hv i hi)
  | _ => unfold V.flat at hv; exact hv.elim
def CallA (σ : Heap) (args args' : List V) (v : V) : Prop :=
  V.refsL NoRef args' ∧ (SealAll Heap.none args args' ∨ SealAll σ args args' ∧ v.flat)
theorem OpP.call [Glb] {x : Operand} {xs : Array Operand} {ts : Array TypeId} {f : FuncId} {caps args' : List V} {v : V} (hx : evO G x = .fn f caps) (h : Cn P f args' v) (hf : CallA σ (xs.toList.map (evO G) ++ caps) args' v) :
    OpP P (.call { callee := .value x, args := xs, argTypes := ts }) G σ v := by
  intro o ho ρ I a w hh hg K Q hK
  rw [← ho] at hg
  obtain ⟨cargs, hr, hA⟩ := exec_call ho hg hx h.1
  show o.upon P a K Q ((execOp a.eval o).run P w)
  rw [hr]
  obtain ⟨hno, hs | ⟨hs, hfl⟩⟩ := hf
  · have hn : HeapOk Heap.none ρ I w := ⟨(fun o x h => by cases h), (fun o o' x x' b h => by cases h), hh.base⟩
    have hA1 := hs.rep hn hA
    have hI : ∀ b, (I b ∨ Owns Heap.none ρ b) → I b := fun b h => h.elim (fun h => h) (fun ⟨_, _, h, _⟩ => by cases h)
    have hA' : RepAll (fun _ => none) I w args' cargs := ⟨hA1.size, fun i hi => ((hA1.rep i hi).reid (S := NoRef) (V.refsL_get hno i hi) (fun _ _ h => h.elim)).mono (fun _ _ h => h) hI (fun _ _ => rfl) (fun _ c _ h => ⟨c, h, rfl⟩)⟩
    refine Calls.mono (h.2 I w cargs hh.base hA') ?_
    rintro e w' ⟨c, I', rfl, hp, hv⟩
    exact hK c I' w' hp (hv.mono (fun _ _ h => by cases h) (fun _ h => h) (fun _ _ => rfl) (fun _ c _ h => ⟨c, h, rfl⟩))
  · have hA1 := hs.rep hh hA
    have hA' : RepAll (fun _ => none) (fun b => I b ∨ Owns σ ρ b) w args' cargs := ⟨hA1.size, fun i hi => (hA1.rep i hi).reid (S := NoRef) (V.refsL_get hno i hi) (fun _ _ h => h.elim)⟩
    refine Calls.mono (h.2 _ w cargs (hh.base.up (fun _ h => .inl h) fun b hb => hb.elim (hh.lt b) (hh.owns_lt)) hA') ?_
    rintro e w' ⟨c, I', rfl, hp, hv⟩
    exact hK c I w' ⟨hp.below, fun _ h => h, fun _ h => .inl h, fun b hb => Nat.lt_of_lt_of_le (hh.lt b hb) hp.below.size⟩ (hv.flat hfl)
theorem OpW.call [Glb] {x : Operand} {xs : Array Operand} {ts : Array TypeId} {f : FuncId} {caps : List V} {v : V} {N id : Nat} (hx : evO G x = .fn f caps) (h : CallS P f (xs.toList.map (evO G) ++ caps) σ N id v σ') :
    OpW P (.call { callee := .value x, args := xs, argTypes := ts }) G σ N id v σ' := by
  intro o ho ρ I a w hh hN hid hg K Q hK
  rw [← ho] at hg
  obtain ⟨cargs, hr, hA⟩ := exec_call ho hg hx h.1
  show o.upon P a K Q ((execOp a.eval o).run P w)
  rw [hr]
  refine Calls.mono (h.2 ρ I w cargs hh hN hid hA) ?_
  rintro e w' ⟨c, ρ', I', rfl, h1, h2, h3, h4⟩
  exact hK c ρ' I' w' h1 h2 h3 h4
/-! ### Frames -/
structure St where
  fr : Nat → V
  σ : Heap
  n : Nat
structure Conc [Glb] (N B : Nat) (st : St) (ρ : Nat → Option Nat) (I : Nat → Prop) (a : Act) (w : World) : Prop where
  heap : HeapOk st.σ ρ I w
  fresh : ∀ o, st.n ≤ o → ρ o = none
  frame : ∀ t, RepV ρ I w (st.fr t) (a.eval (.tmp t))
  defers : a.defers = []
  size : a.tmps.size = N
  base : B ≤ st.n
def putF (fr : Nat → V) (d : Option Tmp) (v : V) : Nat → V := match d with | some t => upd fr t v | none => fr
def dstOk (N : Nat) (d : Option Tmp) : Bool := match d with | some t => decide (t < N) | none => true
theorem frame_put {N : Nat} {fr : Nat → V} (h : ∀ t, RepV ρ I w (fr t) (a.eval (.tmp t))) (hN : a.tmps.size = N) {d : Option Tmp} {v : V} {c : Value} (hd : dstOk N d = true) (hv : RepV ρ I w v c) :
    ∀ t, RepV ρ I w (putF fr d v t) ((a.put d c).eval (.tmp t)) := by
  intro t
  cases d with
  | none => exact h t
  | some s =>
    simp only [dstOk, decide_eq_true_eq] at hd
    simp only [putF, Act.put, Act.eval]
    by_cases ht : t = s
    · subst ht
      rw [upd_same, Array.getD_eq_getD_getElem?, Array.getElem?_setIfInBounds_self_of_lt (hN ▸ hd)]; exact hv
    · rw [upd_ne _ _ ht, Array.getD_eq_getD_getElem?, Array.getElem?_setIfInBounds_ne (Ne.symm ht), ← Array.getD_eq_getD_getElem?]; exact h t
theorem put_size {d : Option Tmp} {c : Value} : (a.put d c).tmps.size = a.tmps.size := by cases d <;> simp [Act.put]
theorem put_defers {d : Option Tmp} {c : Value} : (a.put d c).defers = a.defers := by cases d <;> rfl
structure Frame (B : Nat) (σ : Heap) (ρ : Nat → Option Nat) (I : Nat → Prop) (w : World) (σ' : Heap) (ρ' : Nat → Option Nat) (I' : Nat → Prop) (w' : World) : Prop extends Kept σ ρ I w σ' ρ' I' w' where
  low : ∀ o, o < B → ρ' o = ρ o
theorem Frame.refl {B : Nat} : Frame B σ ρ I w σ ρ I w := ⟨Kept.refl _ _ _ _, fun _ _ => rfl⟩
theorem Frame.trans {B : Nat} {σ'' : Heap} {ρ'' : Nat → Option Nat} {I'' : Nat → Prop} {w'' : World} (a : Frame B σ ρ I w σ' ρ' I' w') (b : Frame B σ' ρ' I' w' σ'' ρ'' I'' w'') : Frame B σ ρ I w σ'' ρ'' I'' w'' :=
  ⟨a.toKept.trans b.toKept, fun o h => (b.low o h).trans (a.low o h)⟩
def AW [Glb] (P : Program) (N B : Nat) (c : Code) (Q : Exit → St → Prop) (st : St) : Prop :=
  ∀ ρ I a w, Conc N B st ρ I a w → c.wp P (fun e a' w' => ∃ st' ρ' I', Q e st' ∧ Conc N B st' ρ' I' a' w' ∧ Frame B st.σ ρ I w st'.σ ρ' I' w') a w
variable {N B : Nat} {Q Q' : Exit → St → Prop} {st : St}
theorem AW.mono [Glb] {c : Code} (h : AW P N B c Q st) (hq : ∀ e st, Q e st → Q' e st) : AW P N B c Q' st :=
  fun ρ I a w hc => wp_mono (h ρ I a w hc) fun e a' w' ⟨st', ρ', I', h1, h2, h3⟩ => ⟨st', ρ', I', hq _ _ h1, h2, h3⟩
theorem AW.skip [Glb] (h : Q .normal st) : AW P N B .skip Q st := fun ρ I a w hc => wp_skip ⟨st, ρ, I, h, hc, Frame.refl⟩
theorem AW.exit [Glb] {id : Nat} (h : Q (.exit id) st) : AW P N B (.exit id) Q st := fun ρ I a w hc => wp_exit ⟨st, ρ, I, h, hc, Frame.refl⟩
theorem AW.ret [Glb] (h : Q .ret st) : AW P N B .ret Q st := fun ρ I a w hc => wp_ret ⟨st, ρ, I, h, hc, Frame.refl⟩
def thenQ (K : St → Prop) (Q : Exit → St → Prop) : Exit → St → Prop
  | .normal, st => K st
  | e, st => Q e st
def blockQ (id : Nat) (Q : Exit → St → Prop) : Exit → St → Prop
  | .exit i, st => if i = id then Q .normal st else Q (.exit i) st
  | e, st => Q e st
theorem AW.seq [Glb] {x y : Code} (h : AW P N B x (thenQ (fun s => AW P N B y Q s) Q) st) : AW P N B (.seq x y) Q st := by
  intro ρ I a w hc
  refine wp_seq (wp_mono (h ρ I a w hc) ?_)
  rintro e a' w' ⟨st', ρ', I', h1, h2, h3⟩
  cases e with
  | normal =>
    refine wp_mono (h1 ρ' I' a' w' h2) ?_
    rintro e a'' w'' ⟨st'', ρ'', I'', k1, k2, k3⟩
    exact ⟨st'', ρ'', I'', k1, k2, h3.trans k3⟩
  | _ => exact ⟨st', ρ', I', h1, h2, h3⟩
theorem AW.cond [Glb] {c : Operand} {x y : Code} {t : Bool} (hc : evO st.fr c = .d (.val (.bool t))) (h1 : t = true → AW P N B x Q st) (h2 : t = false → AW P N B y Q st) : AW P N B (.cond c x y) Q st := by
  intro ρ I a w hcc
  have he : a.eval c = .bool t := (evO_rep (xs := #[c]) (fun t _ => hcc.frame t) (by simp)).val hc
  refine wp_cond he ?_
  cases t with
  | true => exact h1 rfl ρ I a w hcc
  | false => exact h2 rfl ρ I a w hcc
theorem AW.block [Glb] {id : Nat} {c : Code} (h : AW P N B c (blockQ id Q) st) : AW P N B (.block id c) Q st := by
  intro ρ I a w hc
  refine wp_block (wp_mono (h ρ I a w hc) ?_)
  rintro e a' w' ⟨st', ρ', I', h1, h2, h3⟩
  cases e with
  | exit i =>
    simp only [blockQ] at h1
    simp only [Exit.inBlock]
    split at h1
    · next he => rw [if_pos he]; exact ⟨st', ρ', I', h1, h2, h3⟩
    · next he => rw [if_neg he]; exact ⟨st', ρ', I', h1, h2, h3⟩
  | _ => exact ⟨st', ρ', I', h1, h2, h3⟩
theorem AW.loop [Glb] {c : Code} (J : Nat → St → Prop) {m : Nat} (h0 : J m st) (hr : ∀ m st, J m st → AW P N B c (thenQ (fun s => ∃ m', m' < m ∧ J m' s) Q) st) : AW P N B (.loop c) Q st := by
  intro ρ I a w hc b k cs
  have key : ∀ m st ρ I a w, J m st → Conc N B st ρ I a w →
      ∃ e a' w', (∃ st' ρ' I', Q e st' ∧ Conc N B st' ρ' I' a' w' ∧ Frame B st.σ ρ I w st'.σ ρ' I' w') ∧ Arrives P (lone (b.at a (.code c :: .inLoop c :: k)) cs w) b k cs e a' w' := by
    intro m
    induction m using Nat.strongRecOn with
    | _ m ih =>
      intro st ρ I a w hJ hc
      obtain ⟨e, a₁, w₁, ⟨st', ρ', I', h1, h2, h3⟩, harr⟩ := hr m st hJ ρ I a w hc b (.inLoop c :: k) cs
      cases e with
      | normal =>
        obtain ⟨m', hlt, hJ'⟩ := h1
        obtain ⟨e₂, a₂, w₂, ⟨st2, ρ2, I2, k1, k2, k3⟩, harr₂⟩ := ih m' hlt st' ρ' I' a₁ w₁ hJ' h2
        exact ⟨e₂, a₂, w₂, ⟨st2, ρ2, I2, k1, k2, h3.trans k3⟩, .of_steps (Steps.trans harr (.one step_inLoop)) harr₂⟩
      | exit id => exact ⟨_, a₁, w₁, ⟨st', ρ', I', h1, h2, h3⟩, .pass (x := .inLoop c) rfl (fun _ _ => .inl (by simp)) harr⟩
      | goto l => exact ⟨_, a₁, w₁, ⟨st', ρ', I', h1, h2, h3⟩, .pass (x := .inLoop c) rfl (fun _ _ => .inl (by simp)) harr⟩
      | ret => exact ⟨_, a₁, w₁, ⟨st', ρ', I', h1, h2, h3⟩, .pass (x := .inLoop c) rfl (fun _ _ => .inl (by simp)) harr⟩
      | panic ch => exact ⟨_, a₁, w₁, ⟨st', ρ', I', h1, h2, h3⟩, .pass (x := .inLoop c) rfl (fun _ _ => .inl (by simp)) harr⟩
      | outgrown => exact ⟨_, a₁, w₁, ⟨st', ρ', I', h1, h2, h3⟩, .pass (x := .inLoop c) rfl (fun _ _ => .inl (by simp)) harr⟩
  obtain ⟨e, a', w', hq, harr⟩ := key m st ρ I a w h0 hc
  exact ⟨e, a', w', hq, .of_steps (.one step_loop) harr⟩
structure Weak (st st' : St) : Prop where
  n : st'.n ≤ st.n
  fr : ∀ t, st'.fr t = .any ∨ (st'.fr t = st.fr t ∧ (st'.fr t).refs (· < st'.n))
  σ : ∀ o x, st'.σ o = some x → st.σ o = some x ∧ o < st'.n ∧ ∀ r ∈ x.rows, ∀ v ∈ r, v.refs (· < st'.n)
theorem Conc.weak [Glb] {st st' : St} (hc : Conc N B st ρ I a w) (h : Weak st st') (hB : B ≤ st'.n) : Conc N B st' (fun o => if o < st'.n then ρ o else none) I a w ∧ (∀ b, Owns st'.σ (fun o => if o < st'.n then ρ o else none) b → Owns st.σ ρ b) := by
  have hid : ∀ o b, o < st'.n → ρ o = some b → (fun o => if o < st'.n then ρ o else none) o = some b := fun o b h1 h2 => by simp only [h1, if_true]; exact h2
  refine ⟨⟨⟨fun o x ho => ?_, fun o o' x x' b h1 h2 h3 h4 => ?_, hc.heap.base⟩, fun o ho => if_neg (by omega), fun t => ?_, hc.defers, hc.size, hB⟩, ?_⟩
  · obtain ⟨h1, h2, h3⟩ := h.σ o x ho
    obtain ⟨b, c, e, k1, k2, k3, k4, k5⟩ := hc.heap.own o x h1
    exact ⟨b, c, e, hid o b h2 k1, k2, k3, k4, fun i hi => ⟨(k5 i hi).1, fun j hj => ((k5 i hi).2 j hj).reid (h3 _ (List.getElem_mem hi) _ (List.getElem_mem hj)) hid⟩⟩
  · obtain ⟨h5, h6, _⟩ := h.σ o x h1
    obtain ⟨h7, h8, _⟩ := h.σ o' x' h2
    simp only [h6, h8, if_true] at h3 h4
    exact hc.heap.inj o o' x x' b h5 h7 h3 h4
  · rcases h.fr t with h1 | ⟨h1, h2⟩
    · rw [h1]; exact .any _
    · exact RepV.reid (h1 ▸ hc.frame t) h2 hid
  · rintro b ⟨o, x, h1, h2⟩
    obtain ⟨h3, h4, _⟩ := h.σ o x h1
    simp only [h4, if_true] at h2
    exact ⟨o, x, h3, h2⟩
theorem AW.weak [Glb] {c : Code} {st st' : St} (h : Weak st st') (hB : B ≤ st'.n) (k : AW P N B c Q st') : AW P N B c Q st := by
  intro ρ I a w hc
  obtain ⟨h1, h2⟩ := hc.weak h hB
  refine wp_mono (k _ I a w h1) ?_
  rintro e a' w' ⟨st2, ρ', I', k1, k2, k3⟩
  have hown : ∀ b, ¬ Owns st.σ ρ b → ¬ Owns st'.σ (fun o => if o < st'.n then ρ o else none) b := fun b hn ho => hn (h2 b ho)
  refine ⟨st2, ρ', I', k1, k2, ⟨⟨k3.os, k3.tape, k3.output, k3.size, fun b hb hn => k3.kept b hb (hown b hn), k3.sz, fun b hb => (k3.owned b hb).imp (h2 b) id, k3.imm, fun b hb => ?_⟩, fun o ho => ?_⟩⟩
  · rcases k3.immNew b hb with h | h | h
    · exact .inl h
    · exact .inr (.inl (h2 b h))
    · exact .inr (.inr h)
  · rw [k3.low o ho]; simp only [show o < st'.n by omega, if_true]
def WeakQ (B : Nat) (K : St → Prop) (st : St) : Prop := ∃ st', Weak st st' ∧ B ≤ st'.n ∧ K st'
theorem AW.loopw [Glb] {c : Code} (J : Nat → St → Prop) {m : Nat} (h0 : WeakQ B (J m) st) (hr : ∀ m st, J m st → AW P N B c (thenQ (WeakQ B fun s => ∃ m', m' < m ∧ J m' s) Q) st) : AW P N B (.loop c) Q st := by
  obtain ⟨st0, h1, h2, h3⟩ := h0
  refine AW.weak h1 h2 (AW.loop J h3 fun m st hJ => ?_)
  intro ρ I a w hc
  refine wp_mono (hr m st hJ ρ I a w hc) ?_
  rintro e a' w' ⟨st', ρ', I', k1, k2, k3⟩
  cases e with
  | normal =>
    obtain ⟨st2, l1, l2, l3⟩ := k1
    obtain ⟨m1, m2⟩ := k2.weak l1 l2
    exact ⟨st2, _, I', l3, m1, ⟨k3.toKept.owns m2, fun o ho => by simp only [show o < st2.n by omega, if_true]; exact k3.low o ho⟩⟩
  | _ => exact ⟨st', ρ', I', k1, k2, k3⟩
end
end Go.Iso
