/- The abstract layer, part H: a function's contract out of its body. -/
import Derived.Test.YtngmfimpaembnaaGreatDoorIsoG
namespace Go.Iso
open Go Go.RowKit
set_option linter.unusedSimpArgs false
set_option linter.unusedVariables false
def fitA : List V → Prop
  | [] => True
  | .d x :: r => D.fit x ∧ fitA r
  | .agg cs :: r => fitA cs ∧ fitA r
  | _ :: r => fitA r
theorem fitA_of {ρ : Nat → Option Nat} {I : Nat → Prop} {w : World} : ∀ (vs : List V) (f : Nat → Value), (∀ i (hi : i < vs.length), RepV ρ I w vs[i] (f i)) → fitA vs
  | [], _, _ => by unfold fitA; trivial
  | v :: r, f, h => by
    have hr : fitA r := fitA_of r (fun i => f (i + 1)) fun i hi => h (i + 1) (by simpa using hi)
    have h0 : RepV ρ I w v (f 0) := h 0 (by simp)
    cases v with
    | d x => unfold fitA; exact ⟨(h0.toD rfl).fit, hr⟩
    | agg cs => obtain ⟨vs, _, _, h2⟩ := h0.toAgg rfl; unfold fitA; exact ⟨fitA_of cs _ h2, hr⟩
    | _ => unfold fitA; exact hr
def argF (args : List V) : Nat → V := fun t => (args[t]?).getD .any
def retQ (P : Program) (rs : List ResultVar) (K : St → V → Prop) : Exit → St → Prop
  | .normal, st => resK P st rs (K st)
  | .ret, st => resK P st rs (K st)
  | _, _ => False
section
variable {P : Program}
theorem entry_frame {ρ : Nat → Option Nat} {I : Nat → Prop} {w : World} {args : List V} {cargs : Array Value} {n : Nat} (h : RepAll ρ I w args cargs) (t : Nat) :
    RepV ρ I w (argF args t) ((⟨cargs ++ Array.replicate n undef, []⟩ : Act).eval (.tmp t)) := by
  unfold argF
  rcases Nat.lt_or_ge t args.length with ht | ht
  · rw [List.getElem?_eq_getElem ht, Option.getD_some]
    simp only [Act.eval]
    have := h.rep t ht
    rw [Array.getD_eq_getD_getElem?] at this ⊢
    rw [Array.getElem?_append, if_pos (by rw [h.size]; exact ht)]
    exact this
  · rw [List.getElem?_eq_none ht]; exact .any _
theorem Cn.of [Glb] {f : FuncId} {fn : Func} {c : Code} {args : List V} {v : V} {N : Nat} {rs : Array ResultVar} (hm : P.follows .mixedOrders = true) (hf : P.funcs[f]? = some fn) (hb : fn.body = some c) (hc : Callable P f) (hN : fn.ntmps = N) (hr : fn.results = rs) (hn : args.length ≤ N)
    (hok : okB N c = true) (hv : v.refs NoRef) (h : fitA args → vc P N 0 c (retQ P rs.toList (Later (Hold fun st u => SealV st.σ u v))) ⟨argF args, Heap.none, 0⟩) : Cn P f args v := by
  subst hN hr
  refine ⟨hc, fun I w cargs hlt hA => calls_of_wp hf hb ?_⟩
  have hh : HeapOk Heap.none (fun _ => none) I w := ⟨(fun o x h => by cases h), (fun o o' x x' b h => by cases h), hlt⟩
  have hcon : Conc fn.ntmps 0 ⟨argF args, Heap.none, 0⟩ (fun _ => none) I ⟨cargs ++ Array.replicate (fn.ntmps - cargs.size) undef, []⟩ w :=
    ⟨hh, fun _ _ => rfl, fun t => entry_frame hA t, rfl, by simp [hA.size]; omega, Nat.le_refl 0⟩
  refine wp_mono (vc_sound hm c _ _ hok (h (fitA_of args _ hA.rep)) _ I _ w hcon) ?_
  rintro e a' w' ⟨st', ρ', I', h1, h2, h3⟩
  have fin : resK P st' fn.results.toList (fun u => SealV st'.σ u v) → a'.defers = [] ∧ ∃ c, (results fn a'.tmps).run P w' = .ok c w' ∧ ∃ c' I'', Ending.returned c = .returned c' ∧ Pure I w I'' w' ∧ RepV (fun _ => none) I'' w' v c' := by
    intro hk
    obtain ⟨u, c, k1, k2, k3⟩ := resK_sound h2 hk
    have hno : ∀ b, ¬ Owns Heap.none (fun _ => none) b := fun b ⟨_, _, h, _⟩ => by cases h
    refine ⟨h2.defers, c, k3, c, fun b => I' b ∨ Owns st'.σ ρ' b, rfl, ⟨⟨h3.os, h3.tape, h3.output, h3.size, fun b hb => h3.kept b hb (hno b)⟩, fun b hb => .inl (h3.imm b hb), fun b hb => ?_, fun b hb => ?_⟩, ?_⟩
    · rcases hb with hb | hb
      · rcases h3.immNew b hb with h | h | h
        · exact .inl h
        · exact absurd h (hno b)
        · exact .inr h
      · rcases h3.owned b hb with h | h
        · exact absurd h (hno b)
        · exact .inr h
    · rcases hb with hb | hb
      · exact h2.heap.lt b hb
      · exact h2.heap.owns_lt hb
    · exact (k1.rep h2.heap k2).reid hv fun _ _ h => h.elim
  cases e with
  | normal => obtain ⟨k1, c, k2, k3⟩ := fin h1; exact ⟨k1, c, k2, k3⟩
  | ret => obtain ⟨k1, c, k2, k3⟩ := fin h1; exact ⟨k1, c, k2, k3⟩
  | _ => exact h1.elim
end
end Go.Iso
