/- The abstract layer, part Z: how arguments are read: slices, number by number, as plain data. -/
import Derived.Test.YtngmfimpaembnaaGreatDoorIsoY
import Derived.WalkKit
import Derived.ProofKit
import Derived.OpenShut
import Derived.ShutString
import Derived.ChangeOld
import Derived.Below
import Derived.SizedLaws
import Derived.SliceStrings
import Derived.Deep.Slices
import Derived.Lib.LaidTab
namespace Go.Iso
open Go Go.RowKit Go.ChangeShapes Go.WideShapes Go.ChangeAt
set_option linter.unusedVariables false
theorem maxLen_eq : maxLen = 9223372036854775807 := by decide
abbrev there (W : World) : Nat → Prop := fun b => b < W.heap.size
theorem cell_lt {W : World} {a : Addr} {c : Value} (h : W.cell? a = some c) : a.block < W.heap.size ∧ a.spot = none := by
  unfold World.cell? at h
  split at h
  · next hb =>
    split at h
    · cases h
    · next hs =>
      refine ⟨?_, by simpa using hs⟩
      rcases Nat.lt_or_ge a.block W.heap.size with k | k
      · exact k
      · rw [Array.getElem?_eq_none k] at hb; cases hb
  · cases h
theorem choose_list {α : Type} {Q : Nat → α → Prop} : ∀ n : Nat, (∀ i, i < n → ∃ a, Q i a) → ∃ l : List α, l.length = n ∧ ∀ i (h : i < l.length), Q i l[i]
  | 0, _ => ⟨[], rfl, fun i h => absurd h (Nat.not_lt_zero i)⟩
  | n + 1, h => by
    obtain ⟨l, h1, h2⟩ := choose_list n fun i hi => h i (by omega)
    obtain ⟨a, ha⟩ := h n (by omega)
    refine ⟨l ++ [a], by simp [h1], fun i hi => ?_⟩
    rcases Nat.lt_or_ge i l.length with k | k
    · rw [List.getElem_append_left k]; exact h2 i k
    · have : i = n := by simp at hi; omega
      subst this
      rw [List.getElem_append_right (by omega)]; simpa [h1] using ha
section
variable {H : Type} {enc : TypeId × Value → H} {P : Program} {W : World}
def RowRep (W : World) (ds : List D) (cs : List Value) : Prop := ds.length = cs.length ∧ ∀ j (hj : j < ds.length), RepD (there W) W ds[j] (cs.getD j undef)
theorem slice_rep {α : Type} (f : α → List D) {t e : TypeId} {s : Nat} (ht : P.underlying t = some (.slice e)) (hc : P.cellsOf e = s) (hs : 0 < s) (hf : ∀ a, (f a).length = s) (Q : α → DataW H → Prop)
    {fuel : Nat} {cs : List Value} {x : DataW H × List MemPlace} (sub : ∀ n cs' y, n < fuel → DataW.trod enc P W 0 (fun _ => true) true n e cs' = some y → ∃ a, RowRep W (f a) cs' ∧ Q a y.1)
    (h : DataW.trod enc P W 0 (fun _ => true) true fuel t cs = some x) :
    ∃ (l : List α) (c : Value), cs = [c] ∧ RepD (there W) W (slD f l) c ∧ ((x.1 = .nil ∧ l = []) ∨ ∃ ys rest, x.1 = .slice ys rest ∧ l.length = ys.length ∧ ∀ i (h1 : i < l.length) (h2 : i < ys.length), Q l[i] ys[i]) := by
  rcases DataW.trod_slice ht h with ⟨rfl, rfl⟩ | ⟨a, len, cap, elems, rest, n, hfu, rfl, rfl, hb, hl, hm, hlen, hel, _, _⟩
  · exact ⟨[], _, rfl, .nil none 0, .inl ⟨rfl, rfl⟩⟩
  · have each : ∀ i, i < len → ∃ a' : α, ∃ cs', W.cells? 0 (a.add (i * s)) s = some cs' ∧ RowRep W (f a') cs' ∧ ∀ h2 : i < (elems.map (·.1)).length, Q a' (elems.map (·.1))[i] := fun i hi => by
      have h1 := hel i hi
      rw [hc, List.getElem?_eq_getElem (by omega)] at h1
      obtain ⟨cs', h2, h3⟩ := Option.bind_eq_some_iff.1 h1
      obtain ⟨a', h4, h5⟩ := sub n cs' _ (by omega) h3
      exact ⟨a', cs', h2, h4, fun h6 => by simpa using h5⟩
    obtain ⟨l, h1, h2⟩ := choose_list len each
    refine ⟨l, _, rfl, ?_, .inr ⟨_, _, rfl, by simp [h1, hlen], fun i h3 h4 => ?_⟩⟩
    · by_cases h0 : len = 0
      · subst h0
        have : l = [] := List.eq_nil_of_length_eq_zero h1
        subst this
        exact .nil (some a) cap
      · obtain ⟨c0, k1, _, _⟩ := h2 0 (by omega)
        obtain ⟨_, k2, k3⟩ := World.cells?_some k1
        have k4 := k3 0 hs
        obtain ⟨hb1, hb2⟩ := cell_lt (c := (c0.getD 0 undef)) (by simpa [List.getD_eq_getElem?_getD, List.getElem?_eq_getElem (show 0 < c0.length by omega)] using k4)
        have eb : ((a.add 0).add 0) = a := by simp [Addr.add]
        rw [eb] at hb1 hb2
        obtain ⟨b, off, spot⟩ := a
        simp only at hb1 hb2
        subst hb2
        have hg : ∀ i (hi : i < l.length), ∃ cs', W.cells? 0 (⟨b, off + i * s, none⟩ : Addr) s = some cs' ∧ RowRep W (f l[i]) cs' := fun i hi => by
          obtain ⟨cs', m1, m2, _⟩ := h2 i hi
          exact ⟨cs', by rw [← add_addr]; exact m1, m2⟩
        have hg' : ∃ F : Nat → List Value, ∀ i (hi : i < l.length), W.cells? 0 (⟨b, off + i * s, none⟩ : Addr) s = some (F i) ∧ RowRep W (f l[i]) (F i) := by
          refine ⟨fun i => if hi : i < l.length then (hg i hi).choose else [], fun i hi => ?_⟩
          simp only [hi, dite_true]
          exact (hg i hi).choose_spec
        obtain ⟨F, hF⟩ := hg'
        have hlm : (l.map f).length = len := by simp [h1]
        have := RepD.sl (I := there W) (w := W) b off cap s (l.map f) (fun i j => (F i).getD j undef) hb1 (by omega) (by rw [← maxLen_eq]; exact hm) (fun row hr => by
            obtain ⟨x, _, rfl⟩ := List.mem_map.1 hr; exact hf x) (fun i j hi hj => by
            have hi' : i < l.length := by simpa using hi
            obtain ⟨m1, m2⟩ := hF i hi'
            obtain ⟨_, m3, m4⟩ := World.cells?_some m1
            have hj' : j < s := by simp only [List.getElem_map, hf] at hj; exact hj
            have := m4 j hj'
            rw [add_addr] at this
            rw [cellAt, this]
            simp [List.getD_eq_getElem?_getD, List.getElem?_eq_getElem (show j < (F i).length by omega)]) (fun i j hi hj => by
            have hi' : i < l.length := by simpa using hi
            obtain ⟨m1, m2⟩ := hF i hi'
            simp only [List.getElem_map]
            exact m2.2 j (by simpa using hj))
        rw [hlm] at this
        exact this
    · obtain ⟨_, _, _, k⟩ := h2 i h3
      exact k h4
theorem int_cell {t : TypeId} {k : IntKind} {n : Nat} {cs : List Value} {y : DataW H × List MemPlace} (ht : P.underlying t = some (.int k)) (h : DataW.trod enc P W 0 (fun _ => true) true n t cs = some y) :
    ∃ z : Int, RowRep W [D.val (.int k z)] cs ∧ (Lit.int k z).wf = true := by
  obtain ⟨z, rfl, _, hw⟩ := DataW.trod_int ht h
  exact ⟨z, ⟨rfl, fun j hj => by
    have : j = 0 := by simp at hj; omega
    subst this; exact .val _ rfl⟩, hw⟩
end
/-! ### Listed variables -/
theorem laidVars_of {P : Program} {w : World} : ∀ {l : List (String × DataW Unit)} {ps : List MemPlace}, DataW.LaidVars P w l ps → ∀ n d, (n, d) ∈ l →
    ∃ g t cs fuel p, P.globalNamed n = some g ∧ (P.globals[g]?).map (·.type) = some t ∧ w.var? P n = some cs ∧ DataW.trod (fun _ => ()) P w 0 (fun _ => true) false fuel t cs.toList = some (d, p)
  | [], _, _, _, _, hm => by cases hm
  | (n', d') :: r, ps, h, n, d, hm => by
    obtain ⟨g, t, cs, fuel, p, q, h1, h2, h3, h4, h5, _⟩ := h
    rcases List.mem_cons.1 hm with e | e
    · cases e; exact ⟨g, t, cs, fuel, p, h1, h2, h3, h4⟩
    · exact laidVars_of h5 n d e
theorem tab_of_laid {P : Program} {W : World} {l : List (String × DataW Unit)} {n : String} {k : IntKind} {zs : List Int} {g : Nat} {t e : TypeId} {c : Nat} (h : laidMetH P l W) (hh : (l.filter fun x => x.2.handleName?.isSome) = []) (hm : (n, Lib.tabData k zs) ∈ l)
    (hg : P.globalNamed n = some g) (hty : (P.globals[g]?).map (·.type) = some t) (ht : P.underlying t = some (.array c e)) (he : P.underlying e = some (.int k)) (hce : P.cellsOf e = 1) (hct : P.cellsOf t = c) : Lib.TabIs P W n k zs := by
  unfold laidMetH at h
  rw [hh] at h
  obtain ⟨ps, hv, _⟩ := h
  obtain ⟨g', t', cs, fuel, p, h1, h2, h3, h4⟩ := laidVars_of hv n _ hm
  obtain rfl := Option.some.inj (hg.symm.trans h1)
  obtain rfl := Option.some.inj (hty.symm.trans h2)
  unfold Lib.TabIs
  rw [h3, ← Lib.cells_of_tab ht he hce hct h4]
end Go.Iso
