/- The statement StaticSetsSaid is proved: whatever two sets of names and whatever string are given, the law StaticSets returns true, and the three arguments read afterwards as before. Conditions: none beyond those of the given statement. -/
import Derived.Test.YtcgphoghmgeecaaQj
import Derived.Test.YtcgphoghmgeecaaRows
import Derived.WalkKit
import Derived.ProofKit
import Derived.OpenShut
import Derived.ShutString
import Derived.ChangeOld
import Derived.Below
import Derived.SizedLaws
import Derived.SliceStrings
namespace Go.Proofs.Ytcgphoghmgeecaa.staticSets
open Go.ChangeShapes Go.WideShapes Go.ChangeAt Go.RowKit Go.Iso
open Go.ChangeMaps (open_string shut_string)
set_option linter.unusedVariables false
set_option maxRecDepth 100000
theorem own : ownKnob Try.prog.godebug = none := by kernel_rfl
theorem laidOut : laidOutB Try.prog = true := by kernel_rfl
theorem maxLen_eq : maxLen = 9223372036854775807 := by decide

/-- All blocks that are there. -/
abbrev there (W : World) : Nat → Prop := fun b => b < W.heap.size
theorem cell_lt {W : World} {a : Addr} {c : Value} (h : W.cell? a = some c) : a.block < W.heap.size ∧ a.spot = none := by
  unfold World.cell? at h
  split at h
  · next hb =>
    split at h
    · cases h
    · next hs =>
      refine ⟨?_, by simpa using hs⟩
      rcases Nat.lt_or_ge a.block W.heap.size with k | k
      · exact k
      · rw [Array.getElem?_eq_none k] at hb; cases hb
  · cases h
theorem strings_rep {H : Type} {enc : TypeId × Value → H} {W : World} {n : Nat} {cs : List Value} {x : DataW H × List MemPlace} (h : DataW.trod enc Try.prog W 0 (fun _ => true) true n 22 cs = some x) :
    ∃ (l : List ByteArray) (c : Value), cs = [c] ∧ RepD (there W) W (slD strV l) c := by
  rcases open_strings Try.underlying22 Try.underlying9 (by kernel_rfl) h with ⟨rfl, _⟩ | ⟨a, len, cap, ss, rfl, _, hl, hm, hz, _, hcell, hsz⟩
  · exact ⟨[], _, rfl, .nil none 0⟩
  · simp only [if_true] at hz
    by_cases h0 : len = 0
    · subst h0; exact ⟨[], _, rfl, .nil (some a) cap⟩
    · have hlt : len ≤ ss.length := by omega
      have c0 := hcell 0 (by omega)
      have e0 : a.add 0 = a := by simp [Addr.add]
      rw [e0] at c0
      obtain ⟨k1, k2⟩ := cell_lt c0
      obtain ⟨b, off, spot⟩ := a
      simp only at k1 k2
      subst k2
      refine ⟨ss.take len, _, rfl, ?_⟩
      have hlen : ((ss.take len).map strV).length = len := by simp; omega
      have := RepD.sl (I := there W) (w := W) b off cap 1 ((ss.take len).map strV) (fun i _ => .string (ss.getD i ByteArray.empty)) k1 (by omega) (by rw [← maxLen_eq]; exact hm) (fun row hr => by
          obtain ⟨s, _, rfl⟩ := List.mem_map.1 hr; rfl) (fun i j hi hj => by
          have hj0 : j = 0 := by simp at hj; omega
          subst hj0
          have := hcell i (by omega)
          have e : (⟨b, off, none⟩ : Addr).add i = ⟨b, off + i, none⟩ := by unfold Addr.add; split <;> simp_all
          rw [e] at this
          simpa [cellAt] using this) (fun i j hi hj => by
          have hj0 : j = 0 := by simp at hj; omega
          subst hj0
          have hi' : i < ss.length := by omega
          have e : ss.getD i ByteArray.empty = ss[i] := by simp [List.getD_eq_getElem?_getD, hi']
          simp only [List.getElem_map, List.getElem_take, List.getElem_cons_zero, e]
          exact .val _ (by have := hsz ss[i] (List.getElem_mem hi'); rw [maxLen_eq] at this; simpa [okVal] using this))
      rw [hlen] at this
      exact this
theorem names_rep {H : Type} {enc : TypeId × Value → H} {W : World} {base : Nat} {v : Value} {d : DataW H} {ps : List MemPlace} (hval : Value.okWide Try.prog W .any base 24 v) (h : DataW.Trod enc Try.prog W 0 (fun _ => true) true 24 v d ps) :
    ∃ s : NamesA, RepV (fun _ => none) (there W) W (aggV s.enc) v := by
  obtain ⟨cs, rfl, hs⟩ := okWide_struct Try.underlying24 hval
  obtain ⟨fuel, hf⟩ := h
  obtain ⟨y0, y1, n, _, hl, h0, h1⟩ := trod_struct2 Try.underlying24 hf
  have hc : Try.prog.cellsOf 24 = 2 := by kernel_rfl
  have hc4 : Try.prog.cellsOf 4 = 1 := by kernel_rfl
  have hc22 : Try.prog.cellsOf 22 = 1 := by kernel_rfl
  rw [hc] at hs
  obtain ⟨cs⟩ := cs
  match cs, hs with
  | [u, w], _ =>
    simp only [Value.cells, hc4, hc22, List.drop_zero, List.take_succ_cons, List.take_zero, List.drop_succ_cons] at h0 h1
    obtain ⟨b, e0, _⟩ := DataW.trod_bool Try.underlying4 h0
    obtain ⟨l, c, e1, hr⟩ := strings_rep h1
    cases e0; cases e1
    refine ⟨⟨b, l⟩, .agg rfl fun i hi => ?_⟩
    match i, hi with
    | 0, _ => exact .d (.val _ rfl)
    | 1, _ => exact .d hr

theorem lifted (os : Os) (started : os.Started) (H : Type) (enc : TypeId × Value → H) :
    ReturnsInHanded {} Try.checked os 3 .any (Rows.staticSetsSpec.pre6 enc Try.prog Try.f3 Rows.staticSetsRow.domain false) (Rows.staticSetsSpec.post enc Try.prog Try.f3 false true false false) := by
  refine returnsInHanded_of_change_sized (C := Try.checked) own started (by kernel_rfl) Try.func3
    (ChangeSpec.witness6 (enc := enc) (C := Try.checked) false ⟨#[], #[.agg #[.bool false, .slice none 0 0], .agg #[.bool false, .slice none 0 0], .string ByteArray.empty], []⟩ 8 (by kernel_rfl) (by kernel_rfl) (by kernel_rfl) (by kernel_rfl)) ?_
  intro W base args ds gs before hval0 hW hcnd hsz0 _
  have hval : ∀ (j : Nat) t v, Try.f3.params[j]? = some t → args[j]? = some v → Value.okWide Try.prog W .any base t v := hval0
  have hW' := hW
  obtain ⟨p, q, hA0, hV, rfl, hfz, hnd⟩ := hW
  have hA : DataW.TrodAll enc Try.prog W 0 (fun _ => true) true Try.f3.params.toList args.toList ds p := hA0
  rw [Try.params3] at hA hval
  obtain ⟨v0, vs0, d0, ds0, p0, q0, hargs, rfl, rfl, h0, r0⟩ := trodAll_cons hA
  obtain ⟨v1, vs1, d1, ds1, p1, q1, rfl, rfl, rfl, h1, r1⟩ := trodAll_cons r0
  obtain ⟨v2, vs2, d2, ds2, p2, q2, rfl, rfl, rfl, h2, r2⟩ := trodAll_cons r1
  obtain ⟨rfl, rfl, rfl⟩ := trodAll_nil r2
  obtain rfl : args = #[v0, v1, v2] := by cases args; simp_all
  obtain ⟨rfl, rfl⟩ := trodVars_none hV
  obtain ⟨a, ra⟩ := names_rep (hval 0 24 v0 rfl rfl) h0
  obtain ⟨b, rb⟩ := names_rep (hval 1 24 v1 rfl rfl) h1
  obtain ⟨s, rfl, rfl, rfl, y2⟩ := open_string Try.underlying9 (hval 2 9 v2 rfl rfl) h2
  have lt0 : ∀ x ∈ p0, x.block < W.heap.size := by obtain ⟨m, hm⟩ := h0; exact DataW.trod_lt m _ _ _ hm
  have lt1 : ∀ x ∈ p1, x.block < W.heap.size := by obtain ⟨m, hm⟩ := h1; exact DataW.trod_lt m _ _ _ hm
  have hc := (fn3 a b s).2 (there W) W #[v0, v1, .string s] (fun b hb => hb) ⟨rfl, fun i hi => by
    match i, hi with
    | 0, _ => exact ra
    | 1, _ => exact rb
    | 2, _ => exact .d (.val _ (by rw [maxLen_eq] at y2; simpa [okVal] using y2))⟩
  clear hA0 hval0 hsz0
  refine hc.mono fun e W' ⟨c, I', he, hp, hv⟩ => ?_
  have hcv : c = .bool true := hv.val rfl
  subst he hcv
  have bel : Below W.heap.size W W' := hp.below
  exact ⟨_, rfl, _, _, _, [], _, [], hW', trodAll_mk1 (shut_bool Try.underlying4 _), (trodAll_cons_mk (Below.trod laidOut (by kernel_rfl) (of_decide_eq_true (by kernel_rfl)) h0 bel lt0) (trodAll_cons_mk (Below.trod laidOut (by kernel_rfl) (of_decide_eq_true (by kernel_rfl)) h1 bel lt1) (trodAll_cons_mk (shut_string Try.underlying9 y2) trodAll_mk0))), rfl, bel.frame _, fun h => by cases h⟩
theorem over : Rows.staticSetsRow.holds Try.pinned (OpenSpec.ofChange Rows.staticSetsSpec) :=
  OpenClaim.holds_of_wide 3 Try.f3 rfl rfl rfl rfl rfl rfl rfl ⟨rfl, rfl, rfl, rfl, rfl⟩ rfl rfl rfl rfl rfl (by kernel_rfl) Try.func3 (by kernel_rfl)
    (of_decide_eq_true (by kernel_rfl)) (by unfold Func.isWrapper; first | (rw [if_pos (by decide +kernel)]; kernel_rfl) | (rw [if_neg (by decide +kernel)]; exact ⟨rfl, rfl⟩))
    (fun os started H enc _ => lifted os started H enc)
theorem proved : Rows.StaticSetsSaid := over
#print axioms proved
end Go.Proofs.Ytcgphoghmgeecaa.staticSets
