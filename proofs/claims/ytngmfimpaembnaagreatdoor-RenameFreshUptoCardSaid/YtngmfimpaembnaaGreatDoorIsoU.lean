/- The abstract layer, part U: a slice of strings of the run's own, sorted by the library. -/
import Derived.Test.YtngmfimpaembnaaGreatDoorIsoJ
import Derived.Test.YtngmfimpaembnaaGreatDoorIsoW
import Derived.Sort.OwnSorted
namespace Go.Iso
open Go Go.RowKit
set_option linter.unusedSimpArgs false
set_option linter.unusedVariables false
def strB (b : List UInt8) : ByteArray := ⟨b.toArray⟩
def bytesOf (s : ByteArray) : List UInt8 := s.data.toList
theorem strB_bytes {s : ByteArray} : strB (bytesOf s) = s := by cases s; simp [strB, bytesOf]
def sortB (l : List ByteArray) : List ByteArray := ((l.map bytesOf).mergeSort fun x y => decide (x ≤ y)).map strB
theorem sortB_length {l : List ByteArray} : (sortB l).length = l.length := by simp [sortB]
def sortO (l : List ByteArray) : Option (List ByteArray) := if l.length < 4611686018427387904 then some (sortB l) else none
theorem sortO_some {l r : List ByteArray} (h : sortO l = some r) : l.length < 4611686018427387904 ∧ r = sortB l := by
  unfold sortO at h; split at h
  · next h1 => exact ⟨h1, (Option.some.inj h).symm⟩
  · cases h
section
variable {P : Program} {f : FuncId}
def Sorts (P : Program) (f : FuncId) : Prop := Callable P f ∧
  (∀ (blk off cap : Nat) (ss : List (List UInt8)) (w : World), Sort.Holds Go.Proofs.encStr w blk off ss.toArray → blk < w.heap.size → ss.length < 4611686018427387904 →
    Calls P f #[.slice (some ⟨blk, off, none⟩) ss.length cap] w fun e w' => e = .returned (.tuple #[]) ∧ ∃ n os, w' = Sort.grow (Sort.putRow Go.Proofs.encStr (Sort.ahead w n) blk off (ss.mergeSort fun x y => decide (x ≤ y)).toArray) os) ∧
  ∀ (p : Option Addr) (cap : Nat) (w : World), Calls P f #[.slice p 0 cap] w fun e w' => e = .returned (.tuple #[]) ∧ w' = w
theorem oneArg {ρ : Nat → Option Nat} {I : Nat → Prop} {w : World} {v : V} {cargs : Array Value} (h : RepAll ρ I w [v] cargs) : ∃ c, cargs = #[c] ∧ RepV ρ I w v c := by
  have hs : cargs.size = 1 := by simpa using h.size
  match cargs, hs with
  | ⟨[c]⟩, _ => exact ⟨c, rfl, by simpa using h.rep 0 (by simp)⟩
theorem Cl.sort [Glb] (hs : Sorts P f) {l r : List ByteArray} (hl : sortO l = some r) : Cl P f [.msl 0 1 0 l.length] [⟨1, (l.map strV).map (·.map .d)⟩] (.tup []) [⟨1, (r.map strV).map (·.map .d)⟩] := by
  obtain ⟨hb, rfl⟩ := sortO_some hl
  have hok : ∀ l : List ByteArray, ∀ x ∈ [(⟨1, (l.map strV).map (·.map .d)⟩ : Own)], okRows 1 x.rows := fun l x hx => by
    simp only [List.mem_singleton] at hx; subst hx
    intro r hr v hv
    simp only [List.map_map, List.mem_map, Function.comp] at hr
    obtain ⟨s, _, rfl⟩ := hr
    simp at hv; subst hv
    simp [V.refs]
  refine ⟨hs.1, rfl, by simp [V.refsL, V.refs], by simp [V.refs, V.refsL], hok l, fun ρ I w cargs hh hfr hA => ?_⟩
  obtain ⟨c, rfl, hc⟩ := oneArg hA
  obtain ⟨b, cap, cs, e, h1, h2, h3, h4, h5, rfl⟩ := hc.toMsl rfl
  obtain ⟨cs', e', k1, k2, k3⟩ := hh.arr (x := ⟨1, (l.map strV).map (·.map .d)⟩) rfl h1
  have : cs' = cs ∧ e' = e := by have := k1.symm.trans h2; simpa using this
  obtain ⟨rfl, rfl⟩ := this
  have hcell0 : ∀ i (hi : i < l.length), cs'.getD i undef = .string l[i] ∧ l[i].size ≤ 9223372036854775807 := fun i hi => by
    have := k3.rep i (by simpa using hi) 0 (by simp)
    simp only [List.getElem_map, Nat.mul_one, Nat.add_zero, List.map_cons, List.map_nil, List.getElem_cons_zero] at this
    have := this.toD rfl
    generalize cs'.getD i undef = z at this
    cases this with
    | val c h => exact ⟨rfl, by simpa [okVal] using h⟩
  have hcell : ∀ i (hi : i < l.length), cs'.getD i undef = .string l[i] := fun i hi => (hcell0 i hi).1
  have hbig : ∀ s ∈ sortB l, s.size ≤ 9223372036854775807 := fun s hs => by
    simp only [sortB, List.mem_map, List.mem_mergeSort] at hs
    obtain ⟨y, ⟨s', h1, rfl⟩, rfl⟩ := hs
    rw [strB_bytes]
    obtain ⟨i, hi, rfl⟩ := List.getElem_of_mem h1
    exact (hcell0 i hi).2
  have hsz : l.length ≤ cs'.size := by have := k3.size; simpa using this
  have hcs : ∀ (i : Nat) (h : i < cs'.size), cs'.getD i undef = cs'[i] := fun i h => by simp [h]
  have hss : (l.map bytesOf).length = l.length := by simp
  have hH : Sort.Holds Go.Proofs.encStr w b 0 (l.map bytesOf).toArray := by
    refine holds_of_block k1 ?_
    apply List.ext_getElem
    · simp; omega
    · intro i hi1 hi2
      have hi : i < l.length := by simpa using hi2
      rw [List.getElem_take, List.getElem_map, List.getElem_map, Array.getElem_toList, ← hcs i (by omega), hcell i hi]
      exact congrArg Value.string strB_bytes.symm
  have hbl : b < w.heap.size := k1.lt
  have hcall := hs.2.1 b 0 cap (l.map bytesOf) w hH hbl (by simpa using hb)
  simp only [Nat.zero_mul]
  rw [hss] at hcall
  refine Calls.mono hcall ?_
  rintro e2 w' ⟨rfl, n, os, rfl⟩
  have hg := grownBy_sorted (w := w) (g := b) (n := n) (os := os) (((l.map bytesOf).mergeSort fun x y => decide (x ≤ y)).toArray)
  have hblk := heap_sorted (n := n) (os := os) (((l.map bytesOf).mergeSort fun x y => decide (x ≤ y)).toArray) k1
  generalize Sort.grow (Sort.putRow Go.Proofs.encStr (Sort.ahead w n) b 0 (((l.map bytesOf).mergeSort fun x y => decide (x ≤ y)).toArray)) os = w' at hg hblk ⊢
  have hrep : ArrRep ρ I w 1 (((sortB l).map strV).map (·.map .d)) (Sort.putCells Go.Proofs.encStr 0 (((l.map bytesOf).mergeSort fun x y => decide (x ≤ y)).toArray) cs') := by
    refine ⟨by simp [Sort.putCells, sortB_length]; exact hsz, fun i hi => by simp, fun i hi j hj => ?_⟩
    have hj0 : j = 0 := by simpa using hj
    subst hj0
    have hi' : i < l.length := by simpa [sortB_length] using hi
    have : (Sort.putCells Go.Proofs.encStr 0 (((l.map bytesOf).mergeSort fun x y => decide (x ≤ y)).toArray) cs').getD (i * 1 + 0) undef = .string ((sortB l)[i]'(by rw [sortB_length]; exact hi')) := by
      simp [Sort.putCells, sortB, hi', show i < cs'.size by omega, strB, Go.Proofs.encStr]
    rw [this]
    simp only [List.getElem_map, List.map_cons, List.map_nil, List.getElem_cons_zero]
    exact .d (.val _ (by simpa [okVal] using hbig _ (List.getElem_mem (by rw [sortB_length]; exact hi'))))
  obtain ⟨q1, q2⟩ := put_block (w' := w') (σ1 := Heap.none) (id := 0) (b := b) (e := e') (x := ⟨1, ((sortB l).map strV).map (·.map .d)⟩) hh (fun _ _ h => by cases h) (fun _ _ h => by cases h) (.inl ⟨0, _, rfl, h1⟩) (fun b' h => by rw [h1] at h; cases h; rfl) k2
    hg.os hg.tape hg.output hg.size (fun b' h1 h2 => hg.block b' h1 (fun h => h2 (by cases h; rfl))) hblk (fun c0 e0 h => by
      have h := k1.symm.trans h
      simp at h
      exact ⟨by rw [← h.1]; simp [Sort.putCells], h.2.symm⟩) hrep
  have e1 : upd Heap.none 0 (some ⟨1, ((sortB l).map strV).map (·.map .d)⟩) = hpA [⟨1, ((sortB l).map strV).map (·.map .d)⟩] := by
    funext o
    cases o with
    | zero => rw [upd_same]; rfl
    | succ o => rw [upd_ne _ _ (by omega)]; rfl
  have e2 : upd ρ 0 (some b) = ρ := by
    funext o
    by_cases ho : o = 0
    · subst ho; rw [upd_same, h1]
    · rw [upd_ne _ _ ho]
  rw [e1, e2] at q1 q2
  exact ⟨.tuple #[], I, rfl, q1.toKept, q2, .tup rfl fun i hi => absurd hi (Nat.not_lt_zero i)⟩
theorem Cn.sort_nil [Glb] (hs : Sorts P f) : Cn P f [.d (.val (.slice none 0 0))] (.tup []) := by
  refine ⟨hs.1, fun I w cargs hlt hA => ?_⟩
  obtain ⟨c, rfl, hc⟩ := oneArg hA
  have hc := hc.toD rfl
  cases hc with
  | val c h => exact Calls.mono (hs.2.2 none 0 w) (by rintro e w' ⟨rfl, rfl⟩; exact ⟨.tuple #[], I, rfl, Pure.refl hlt.lt, .tup rfl fun i hi => absurd hi (Nat.not_lt_zero i)⟩)
theorem toRow_acc {o n : Nat} {out : List (List V)} : toRow (accV o n out) = [accV o n out] := by unfold accV; split <;> rfl
theorem rowOk_acc {o n : Nat} {out : List (List V)} : rowOk (accV o n out) = true := by unfold accV; split <;> rfl
theorem accV_sort {l r : List ByteArray} {o : Nat} (h : sortO l = some r) : accV o 1 ((l.map strV).map (·.map .d)) = accV o 1 ((r.map strV).map (·.map .d)) := by
  obtain ⟨_, rfl⟩ := sortO_some h
  cases l with
  | nil => simp [sortB]
  | cons x l =>
    rw [accV_msl (by simp), accV_msl (by intro h; have := congrArg List.length h; simp [sortB] at this)]
    simp [sortB]
theorem renRows_strs {rl : List Nat} {l : List ByteArray} : renRows rl ((l.map strV).map (·.map .d)) = (l.map strV).map (·.map .d) := by
  rw [renRows_map, List.map_map, List.map_congr_left]
  intro r hr
  obtain ⟨s, _, rfl⟩ := List.mem_map.1 hr
  simp [Function.comp, renV_d]
theorem callK_sort [Glb] {σ : Heap} {N id o : Nat} {l r : List ByteArray} {L : V → Heap → Prop} (hs : Sorts P f) (h : sortO l = some r) (hσ : σ o = accO 1 ((l.map strV).map (·.map .d)))
    (k : L (.tup []) (upd σ o (accO 1 ((r.map strV).map (·.map .d))))) : callK P (.fn f []) [accV o 1 ((l.map strV).map (·.map .d))] σ N id L := by
  by_cases hl : l = []
  · subst hl
    obtain ⟨_, rfl⟩ := sortO_some h
    have e : upd σ o (accO 1 (((sortB []).map strV).map (·.map .d))) = σ := by
      funext m
      by_cases hm : m = o
      · subst hm; rw [upd_same, hσ]; simp [sortB]
      · rw [upd_ne _ _ hm]
    rw [e] at k
    exact callK_pure (Cn.sort_nil hs) (by simp [accV, V.refsL, V.refs]) k
  · have hr : r ≠ [] := by
      obtain ⟨_, rfl⟩ := sortO_some h
      intro h; have := congrArg List.length h; simp [sortB] at this; exact hl this
    have ha : ∀ q : List ByteArray, q ≠ [] → accO 1 ((q.map strV).map (·.map V.d)) = some ⟨1, (q.map strV).map (·.map .d)⟩ := fun q hq => if_neg (by simpa using hq)
    rw [accV_msl (by simpa using hl)]
    refine callK_loc [o] (Cl.sort hs h) (by simp [renRow_cons, renRow_nil, renV_msl]) (by simp) ⟨by rw [hσ, ha l hl, renRows_strs], trivial⟩ ?_
    rw [renV_tup, renRow_nil, updH_cons, updH_nil, renRows_strs, ← ha r hr]
    exact k
/-! ### Own blocks are sealed at a call -/
theorem HeapOk.sealed [Glb] {σ : Heap} {ρ : Nat → Option Nat} {I : Nat → Prop} {w : World} (ds : List Nat) (hh : HeapOk σ ρ I w) : HeapOk (keepH ds σ) ρ I w ∧ HeapOk (dropH ds σ) ρ (fun b => I b ∨ Owns (keepH ds σ) ρ b) w := by
  have kp : ∀ o x, keepH ds σ o = some x → o ∈ ds ∧ σ o = some x := fun o x h => by
    unfold keepH at h; split at h
    · next h1 => exact ⟨h1, h⟩
    · cases h
  have dp : ∀ o x, dropH ds σ o = some x → o ∉ ds ∧ σ o = some x := fun o x h => by
    unfold dropH at h; split at h
    · cases h
    · next h1 => exact ⟨h1, h⟩
  have hk : HeapOk (keepH ds σ) ρ I w := hh.forget fun o x h => (kp o x h).2
  refine ⟨hk, fun o x ho => ?_, fun o o' x x' b h1 h2 h3 h4 => hh.inj o o' x x' b (dp o x h1).2 (dp o' x' h2).2 h3 h4, hh.base.up (fun _ h => .inl h) fun b hb => hb.elim (hh.lt b) fun h => hk.owns_lt h⟩
  obtain ⟨h1, h2⟩ := dp o x ho
  obtain ⟨b, c, e, k1, k2, k3, k4, k5⟩ := hh.own o x h2
  refine ⟨b, c, e, k1, k2, k3, ?_, fun i hi => ⟨(k5 i hi).1, fun j hj => ((k5 i hi).2 j hj).mono (fun _ _ h => h) (fun _ h => .inl h) (fun _ _ => rfl) (fun _ c _ h => ⟨c, h, rfl⟩)⟩⟩
  rintro (hb | ⟨o', x', l1, l2⟩)
  · exact k4 hb
  · obtain ⟨m1, m2⟩ := kp o' x' l1
    exact h1 (hh.inj o o' _ _ b h2 m2 k1 l2 ▸ m1)
theorem CallS.asData [Glb] {σ : Heap} {N id : Nat} {args args' : List V} {v : V} (ds : List Nat) (hc : Cn P f args' v) (hs : SealAll (keepH ds σ) args args') (hr : V.refsL NoRef args') (hv : v.refs NoRef) : CallS P f args σ N id v (dropH ds σ) := by
  refine ⟨hc.1, fun ρ I w cargs hh hfr hid hA => ?_⟩
  obtain ⟨hk, hd⟩ := hh.sealed ds
  have hA1 := hs.rep hk hA
  have hA2 : RepAll (fun _ => none) (fun b => I b ∨ Owns (keepH ds σ) ρ b) w args' cargs := ⟨hA1.size, fun i hi => (hA1.rep i hi).reid (V.refsL_get hr i hi) (fun _ _ h => h.elim)⟩
  have subD : ∀ b, Owns (dropH ds σ) ρ b → Owns σ ρ b := by
    rintro b ⟨o, x, h1, h2⟩
    unfold dropH at h1; split at h1
    · cases h1
    · exact ⟨o, x, h1, h2⟩
  have subK : ∀ b, Owns (keepH ds σ) ρ b → Owns σ ρ b := by
    rintro b ⟨o, x, h1, h2⟩
    unfold keepH at h1; split at h1
    · exact ⟨o, x, h1, h2⟩
    · cases h1
  refine Calls.mono (hc.2 _ w cargs hd.base hA2) ?_
  rintro e w' ⟨c, I', rfl, hp, hv'⟩
  have st := hp.step (σ := dropH ds σ) (ρ := ρ)
  exact ⟨c, ρ, I', rfl, ⟨⟨st.os, st.tape, st.output, st.size, fun b hb hno => st.kept b hb (fun h => hno (subD b h)), st.sz, fun b h => (st.owned b h).imp_left (subD b), fun b h => st.imm b (.inl h), fun b h => by
    rcases st.immNew b h with (h | h) | h | h
    · exact .inl h
    · exact .inr (.inl (subK b h))
    · exact .inr (.inl (subD b h))
    · exact .inr (.inr h)⟩, st.ids⟩, hd.pure hp, fun _ _ => rfl, hv'.reid hv (fun _ _ h => h.elim)⟩
theorem callK_seal [Glb] {σ : Heap} {N id : Nat} {g : FuncId} {caps args args' : List V} {v : V} {L : V → Heap → Prop} (ds : List Nat) (hc : Cn P g args' v) (hs : SealAll (keepH ds σ) (args ++ caps) args') (hr : V.refsL NoRef args') (hv : v.refs NoRef) (k : L v (dropH ds σ)) : callK P (.fn g caps) args σ N id L :=
  ⟨v, dropH ds σ, .inr (CallS.asData ds hc hs hr hv), k⟩
end
end Go.Iso
