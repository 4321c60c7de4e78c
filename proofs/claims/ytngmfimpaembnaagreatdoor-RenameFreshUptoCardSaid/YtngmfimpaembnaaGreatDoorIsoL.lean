/- The abstract layer, part L: loops and cuts by states that are written out. -/
import Derived.Test.YtngmfimpaembnaaGreatDoorIsoS
namespace Go.Iso
open Go Go.RowKit
set_option linter.unusedSimpArgs false
set_option linter.unusedVariables false
def frL : List (Nat × V) → Nat → V
  | [], _ => .any
  | (s, v) :: l, t => if t = s then v else frL l t
def hpL : List (Nat × Own) → Heap
  | [], _ => none
  | (s, x) :: l, o => if o = s then some x else hpL l o
def mkS (l : List (Nat × V)) (h : List (Nat × Own)) (n : Nat) : St := ⟨frL l, hpL h, n⟩
theorem frL_nil {t : Nat} : frL [] t = .any := nrfl rfl
theorem frL_cons {s t : Nat} {v : V} {l : List (Nat × V)} : frL ((s, v) :: l) t = if t = s then v else frL l t := nrfl rfl
theorem hpL_cons {s o : Nat} {x : Own} {l : List (Nat × Own)} : hpL ((s, x) :: l) o = if o = s then some x else hpL l o := nrfl rfl
theorem hpL_nil : hpL [] = Heap.none := nrfl rfl
theorem mkS_eq {l : List (Nat × V)} {h : List (Nat × Own)} {n : Nat} : mkS l h n = ⟨frL l, hpL h, n⟩ := nrfl rfl
def okF (fr : Nat → V) (n : Nat) : List (Nat × V) → Prop
  | [] => True
  | (s, v) :: l => fr s = v ∧ v.refs (· < n) ∧ okF fr n l
def okRows (n : Nat) (rows : List (List V)) : Prop := ∀ r ∈ rows, ∀ v ∈ r, v.refs (· < n)
def okH (σ : Heap) (n : Nat) : List (Nat × Own) → Prop
  | [] => True
  | (o, x) :: l => σ o = some x ∧ o < n ∧ okRows n x.rows ∧ okH σ n l
theorem okF_nil {fr : Nat → V} {n : Nat} : okF fr n [] = True := nrfl rfl
theorem okF_cons {fr : Nat → V} {n s : Nat} {v : V} {l : List (Nat × V)} : okF fr n ((s, v) :: l) = (fr s = v ∧ v.refs (· < n) ∧ okF fr n l) := nrfl rfl
theorem okH_nil {σ : Heap} {n : Nat} : okH σ n [] = True := nrfl rfl
theorem okH_cons {σ : Heap} {n o : Nat} {x : Own} {l : List (Nat × Own)} : okH σ n ((o, x) :: l) = (σ o = some x ∧ o < n ∧ okRows n x.rows ∧ okH σ n l) := nrfl rfl
theorem okRows_nil {n : Nat} : okRows n [] = True := by simp [okRows]
theorem okRows_cons {n : Nat} {r : List V} {l : List (List V)} : okRows n (r :: l) = (V.refsL (· < n) r ∧ okRows n l) := by
  have : ∀ r : List V, V.refsL (· < n) r ↔ ∀ v ∈ r, v.refs (· < n) := by
    intro r; induction r with
    | nil => simp [V.refsL]
    | cons v r ih => simp [V.refsL, ih]
  simp [okRows, this]
theorem okRows_data {n : Nat} {rows : List (List D)} : okRows n (rows.map (·.map .d)) := by
  intro r hr v hv
  obtain ⟨ds, _, rfl⟩ := List.mem_map.1 hr
  obtain ⟨x, _, rfl⟩ := List.mem_map.1 hv
  unfold V.refs; trivial
theorem refs_d {S : Nat → Prop} {x : D} : V.refs S (.d x) = True := by simp [V.refs]
theorem refs_any {S : Nat → Prop} : V.refs S .any = True := by simp [V.refs]
theorem refs_iptr {S : Nat → Prop} {cs : List D} : V.refs S (.iptr cs) = True := by simp [V.refs]
theorem refs_ptr {S : Nat → Prop} {o k i j : Nat} : V.refs S (.ptr o k i j) = S o := by simp [V.refs]
theorem refs_msl {S : Nat → Prop} {o k i j : Nat} : V.refs S (.msl o k i j) = S o := by simp [V.refs]
theorem refs_agg {S : Nat → Prop} {cs : List V} : V.refs S (.agg cs) = V.refsL S cs := by simp [V.refs]
theorem refs_tup {S : Nat → Prop} {cs : List V} : V.refs S (.tup cs) = V.refsL S cs := by simp [V.refs]
theorem refs_fn {S : Nat → Prop} {f : FuncId} {cs : List V} : V.refs S (.fn f cs) = V.refsL S cs := by simp [V.refs]
theorem refsL_nil {S : Nat → Prop} : V.refsL S [] = True := by simp [V.refsL]
theorem refsL_cons {S : Nat → Prop} {v : V} {r : List V} : V.refsL S (v :: r) = (V.refs S v ∧ V.refsL S r) := by simp [V.refsL]
theorem refsL_data {S : Nat → Prop} {cs : List D} : V.refsL S (cs.map .d) = True := by
  induction cs with
  | nil => exact refsL_nil
  | cons x r ih => rw [List.map_cons, refsL_cons, refs_d, ih, and_self]
theorem weak_of {st : St} {l : List (Nat × V)} {h : List (Nat × Own)} {n : Nat} (hn : n ≤ st.n) (hf : okF st.fr n l) (hh : okH st.σ n h) : Weak st (mkS l h n) where
  n := hn
  fr := fun t => by
    show frL l t = .any ∨ (frL l t = st.fr t ∧ (frL l t).refs (· < n))
    clear hh
    induction l with
    | nil => exact .inl rfl
    | cons p l ih =>
      obtain ⟨s, v⟩ := p
      rw [okF_cons] at hf
      rw [frL_cons]
      split
      · next e => subst e; exact .inr ⟨hf.1.symm, hf.2.1⟩
      · exact ih hf.2.2
  σ := fun o x ho => by
    change hpL h o = some x at ho
    clear hf
    induction h with
    | nil => cases ho
    | cons p h ih =>
      obtain ⟨s, y⟩ := p
      rw [okH_cons] at hh
      rw [hpL_cons] at ho
      split at ho
      · next e => cases ho; subst e; exact ⟨hh.1, hh.2.1, hh.2.2.1⟩
      · exact ih hh.2.2.2 ho
section
variable {P : Program} {N B n : Nat} {Q : Exit → St → Prop} {st : St} {α : Type}
def LoopQ (B n : Nat) (l : α → List (Nat × V)) (h : α → List (Nat × Own)) (Inv : α → Prop) (μ : α → Nat) (x : α) (s : St) : Prop :=
  ∃ y, Inv y ∧ μ y < μ x ∧ n ≤ s.n ∧ okF s.fr n (l y) ∧ okH s.σ n (h y)
theorem AW.rounds [Glb] (hm : P.follows .mixedOrders = true) {c : Code} (hok : okB N c = true) (n : Nat) (l : α → List (Nat × V)) (h : α → List (Nat × Own)) (Inv : α → Prop) (μ : α → Nat) (x0 : α) (hB : B ≤ n)
    (h0 : Inv x0) (h1 : n ≤ st.n) (h2 : okF st.fr n (l x0)) (h3 : okH st.σ n (h x0))
    (hr : ∀ x, Inv x → vc P N B c (thenQ (Later (Hold (LoopQ B n l h Inv μ x))) Q) (mkS (l x) (h x) n)) : AW P N B (.loop c) Q st := by
  refine AW.loopw (fun m s => ∃ x, Inv x ∧ μ x = m ∧ s = mkS (l x) (h x) n) (m := μ x0) ⟨_, weak_of h1 h2 h3, hB, x0, h0, rfl, rfl⟩ ?_
  rintro m s ⟨x, hx, rfl, rfl⟩
  refine (vc_sound hm c _ _ hok (hr x hx)).mono fun e s hs => ?_
  cases e with
  | normal =>
    obtain ⟨y, k1, k2, k3, k4, k5⟩ := hs
    exact ⟨_, weak_of k3 k4 k5, hB, μ y, k2, y, k1, rfl, rfl⟩
  | _ => exact hs
end
end Go.Iso
