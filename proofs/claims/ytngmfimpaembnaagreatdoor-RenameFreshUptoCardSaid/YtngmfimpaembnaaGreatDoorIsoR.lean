/- The abstract layer, part R: loops whose states give the blocks new numbers; slices that grow. -/
import Derived.Test.YtngmfimpaembnaaGreatDoorIsoP
namespace Go.Iso
open Go Go.RowKit
set_option linter.unusedSimpArgs false
set_option linter.unusedVariables false
def hpO (h : List (Option Own)) : Heap := fun o => (h[o]?).join
def mkR (l : List (Nat × V)) (h : List (Option Own)) : St := ⟨frL l, hpO h, h.length⟩
def okR (rl : List Nat) (m : Nat) (fr : Nat → V) : List (Nat × V) → Prop
  | [] => True
  | (s, v) :: l => fr s = renV rl v ∧ v.refs (· < m) ∧ okR rl m fr l
def inO (rl : List Nat) (m : Nat) (σ : Heap) (o : Nat) (x : Option Own) : Prop := ∀ y, x = some y → σ o = some ⟨y.k, renRows rl y.rows⟩ ∧ okRows m y.rows
def inR (rl0 : List Nat) (m : Nat) (σ : Heap) : List Nat → List (Option Own) → Prop
  | [], [] => True
  | o :: rl, x :: h => inO rl0 m σ o x ∧ inR rl0 m σ rl h
  | _, _ => False
def rangeB (rl : List Nat) : Nat → Prop
  | 0 => True
  | B + 1 => rl.getD B 0 = B ∧ rangeB rl B
theorem rangeB_get {rl : List Nat} : ∀ {B : Nat}, rangeB rl B → ∀ j, j < B → rl.getD j 0 = j
  | B + 1, h, j, hj => by
    unfold rangeB at h
    rcases Nat.lt_succ_iff_lt_or_eq.1 hj with hj | rfl
    · exact rangeB_get h.2 j hj
    · exact h.1
structure RoundC (B : Nat) (rl : List Nat) (s : St) (l : List (Nat × V)) (h : List (Option Own)) : Prop where
  nodup : rl.Nodup
  range : rangeB rl B
  base : B ≤ h.length
  fr : okR rl h.length s.fr l
  hp : inR rl h.length s.σ rl h
section
variable {P : Program} {N B : Nat} {Q : Exit → St → Prop} {st : St} {α : Type} {σ : Heap} {ρ : Nat → Option Nat} {I : Nat → Prop} {w : World} {a : Act}
theorem inR_get {rl0 : List Nat} {m : Nat} : ∀ {rl : List Nat} {h : List (Option Own)}, inR rl0 m σ rl h → rl.length = h.length ∧ ∀ j y, (h[j]?).join = some y → σ (rl.getD j 0) = some ⟨y.k, renRows rl0 y.rows⟩ ∧ okRows m y.rows
  | [], [], _ => ⟨rfl, fun j y h => by simp at h⟩
  | o :: rl, x :: h, hh => by
    unfold inR at hh
    obtain ⟨h1, h2⟩ := inR_get hh.2
    refine ⟨by simp [h1], fun j y hj => ?_⟩
    cases j with
    | zero => exact hh.1 y (by simpa using hj)
    | succ j => simpa using h2 j y (by simpa using hj)
  | [], _ :: _, h => h.elim
  | _ :: _, [], h => h.elim
theorem okR_get {rl : List Nat} {m : Nat} {fr : Nat → V} : ∀ {l : List (Nat × V)}, okR rl m fr l → ∀ t, frL l t = .any ∨ (fr t = renV rl (frL l t) ∧ (frL l t).refs (· < m))
  | [], _, t => .inl rfl
  | (s, v) :: l, h, t => by
    unfold okR at h
    rw [frL_cons]
    split
    · next e => subst e; exact .inr ⟨h.1, h.2.1⟩
    · exact okR_get h.2.2 t
theorem Conc.round [Glb] {rl : List Nat} {l : List (Nat × V)} {h : List (Option Own)} (hc : Conc N B st ρ I a w) (hr : RoundC B rl st l h) :
    Conc N B (mkR l h) (fun o => if o < h.length then ρ (rl.getD o 0) else none) I a w ∧ (∀ b, Owns (mkR l h).σ (fun o => if o < h.length then ρ (rl.getD o 0) else none) b → Owns st.σ ρ b) := by
  obtain ⟨hlen, hget⟩ := inR_get hr.hp
  have key : ∀ {v : V} {c : Value}, v.refs (· < h.length) → RepV ρ I w (renV rl v) c → RepV (fun o => if o < h.length then ρ (rl.getD o 0) else none) I w v c := fun hv hx =>
    (RepV.unren _ hx).reid hv fun o b h1 h2 => by simp only [h1, if_true]; exact h2
  have hlt : ∀ o x, (mkR l h).σ o = some x → o < h.length := fun o x ho => by
    rcases Nat.lt_or_ge o h.length with h' | h'
    · exact h'
    · simp [mkR, hpO, List.getElem?_eq_none h'] at ho
  refine ⟨⟨⟨fun o x ho => ?_, fun o o' x x' b h1 h2 h3 h4 => ?_, hc.heap.base⟩, fun o ho => if_neg (by simpa [mkR] using ho), fun t => ?_, hc.defers, hc.size, hr.base⟩, ?_⟩
  · have hol := hlt o x ho
    obtain ⟨k1, k2⟩ := hget o x ho
    obtain ⟨b, c, e, m1, m2, m3, m4, m5⟩ := hc.heap.own _ _ k1
    have hrl : (renRows rl x.rows).length = x.rows.length := by rw [renRows_map]; simp
    refine ⟨b, c, e, by simp only [hol, if_true]; exact m1, m2, by simpa [hrl] using m3, m4, fun i hi => ?_⟩
    obtain ⟨n1, n2⟩ := m5 i (by simpa [hrl] using hi)
    simp only [renRows_map, List.getElem_map, List.length_map] at n1 n2
    refine ⟨n1, fun j hj => ?_⟩
    exact key (k2 _ (List.getElem_mem hi) _ (List.getElem_mem hj)) (n2 j hj)
  · obtain ⟨k1, _⟩ := hget o x h1
    obtain ⟨k2, _⟩ := hget o' x' h2
    have l1 := hlt o x h1
    have l2 := hlt o' x' h2
    simp only [l1, l2, if_true] at h3 h4
    have := hc.heap.inj _ _ _ _ b k1 k2 h3 h4
    have hi : o < rl.length := by omega
    have hi' : o' < rl.length := by omega
    simp only [List.getD_eq_getElem?_getD, List.getElem?_eq_getElem hi, List.getElem?_eq_getElem hi', Option.getD_some] at this
    exact (List.getElem_inj hr.nodup).1 this
  · rcases okR_get hr.fr t with h1 | ⟨h1, h2⟩
    · show RepV _ I w (frL l t) _; rw [h1]; exact .any _
    · exact key h2 (h1 ▸ hc.frame t)
  · rintro b ⟨o, x, h1, h2⟩
    have l1 := hlt o x h1
    simp only [l1, if_true] at h2
    exact ⟨_, _, (hget o x h1).1, h2⟩
theorem Frame.round {rl : List Nat} {l : List (Nat × V)} {h : List (Option Own)} (hr : RoundC B rl st l h) (hB : ∀ b, Owns (mkR l h).σ (fun o => if o < h.length then ρ (rl.getD o 0) else none) b → Owns st.σ ρ b) :
    Frame B st.σ ρ I w (mkR l h).σ (fun o => if o < h.length then ρ (rl.getD o 0) else none) I w := by
  have hk : Kept st.σ ρ I w st.σ ρ I w := Kept.refl _ _ _ _
  exact ⟨hk.owns hB, fun o ho => by rw [rangeB_get hr.range o ho, if_pos (by have := hr.base; omega)]⟩
theorem AW.round [Glb] {c : Code} {rl : List Nat} {l : List (Nat × V)} {h : List (Option Own)} (hr : RoundC B rl st l h) (k : AW P N B c Q (mkR l h)) : AW P N B c Q st := by
  intro ρ I a w hc
  obtain ⟨h1, h2⟩ := hc.round hr
  refine wp_mono (k _ I a w h1) ?_
  rintro e a' w' ⟨st2, ρ', I', k1, k2, k3⟩
  have hown : ∀ b, ¬ Owns st.σ ρ b → ¬ Owns (mkR l h).σ (fun o => if o < h.length then ρ (rl.getD o 0) else none) b := fun b hn ho => hn (h2 b ho)
  refine ⟨st2, ρ', I', k1, k2, ⟨⟨k3.os, k3.tape, k3.output, k3.size, fun b hb hn => k3.kept b hb (hown b hn), k3.sz, fun b hb => (k3.owned b hb).imp (h2 b) (fun h => h), k3.imm, fun b hb => ?_⟩, fun o ho => ?_⟩⟩
  · rcases k3.immNew b hb with h | h | h
    · exact .inl h
    · exact .inr (.inl (h2 b h))
    · exact .inr (.inr h)
  · rw [k3.low o ho, rangeB_get hr.range o ho, if_pos (by have := hr.base; omega)]
def RoundQ (B : Nat) (l : α → List (Nat × V)) (h : α → List (Option Own)) (Inv : α → Prop) (μ : α → Nat) (x : α) (s : St) : Prop :=
  ∃ y rl, Inv y ∧ μ y < μ x ∧ RoundC B rl s (l y) (h y)
theorem RoundQ.mk {l : α → List (Nat × V)} {h : α → List (Option Own)} {Inv : α → Prop} {μ : α → Nat} {x : α} {s : St} (y : α) (rl : List Nat) (hi : Inv y) (hμ : μ y < μ x) (hr : RoundC B rl s (l y) (h y)) : RoundQ B l h Inv μ x s := ⟨y, rl, hi, hμ, hr⟩
def LoopV [Glb] (P : Program) (N B : Nat) (c : Code) (Q : Exit → St → Prop) : Nat → St → Prop
  | 0, st => vc P N B c (thenQ (Later (Hold fun _ => False)) Q) st
  | n + 1, st => vc P N B c (thenQ (Later (Hold fun s => LoopV P N B c Q n s)) Q) st
theorem loopV_zero [Glb] {c : Code} : LoopV P N B c Q 0 st = vc P N B c (thenQ (Later (Hold fun _ => False)) Q) st := nrfl rfl
theorem loopV_one [Glb] {c : Code} : LoopV P N B c Q 1 st = vc P N B c (thenQ (Later (Hold fun s => LoopV P N B c Q 0 s)) Q) st := nrfl rfl
theorem loopV_two [Glb] {c : Code} : LoopV P N B c Q 2 st = vc P N B c (thenQ (Later (Hold fun s => LoopV P N B c Q 1 s)) Q) st := nrfl rfl
theorem loopV_three [Glb] {c : Code} : LoopV P N B c Q 3 st = vc P N B c (thenQ (Later (Hold fun s => LoopV P N B c Q 2 s)) Q) st := nrfl rfl
theorem mkR_eq {l : List (Nat × V)} {h : List (Option Own)} : mkR l h = ⟨frL l, hpO h, h.length⟩ := nrfl rfl
theorem hpO_at {h : List (Option Own)} {o : Nat} : hpO h o = (h[o]?).join := nrfl rfl
theorem join_some {α : Type} {x : Option α} : (some x).join = x := nrfl rfl
theorem okR_nil {rl : List Nat} {m : Nat} {fr : Nat → V} : okR rl m fr [] = True := nrfl rfl
theorem okR_cons {rl : List Nat} {m s : Nat} {fr : Nat → V} {v : V} {l : List (Nat × V)} : okR rl m fr ((s, v) :: l) = (fr s = renV rl v ∧ v.refs (· < m) ∧ okR rl m fr l) := nrfl rfl
theorem inR_nil {rl : List Nat} {m : Nat} : inR rl m σ [] [] = True := nrfl rfl
theorem inR_cons {rl0 rl : List Nat} {m o : Nat} {x : Option Own} {h : List (Option Own)} : inR rl0 m σ (o :: rl) (x :: h) = (inO rl0 m σ o x ∧ inR rl0 m σ rl h) := nrfl rfl
theorem inO_none {rl : List Nat} {m o : Nat} : inO rl m σ o none = True := by simp [inO]
theorem inO_some {rl : List Nat} {m o : Nat} {x : Own} : inO rl m σ o (some x) = (σ o = some ⟨x.k, renRows rl x.rows⟩ ∧ okRows m x.rows) := by simp [inO]
theorem rangeB_zero {rl : List Nat} : rangeB rl 0 = True := nrfl rfl
theorem rangeB_succ {rl : List Nat} {B : Nat} : rangeB rl (B + 1) = (rl.getD B 0 = B ∧ rangeB rl B) := nrfl rfl
theorem roundC_eq {rl : List Nat} {s : St} {l : List (Nat × V)} {h : List (Option Own)} : RoundC B rl s l h = (rl.Nodup ∧ rangeB rl B ∧ B ≤ h.length ∧ okR rl h.length s.fr l ∧ inR rl h.length s.σ rl h) :=
  propext ⟨fun h => ⟨h.1, h.2, h.3, h.4, h.5⟩, fun h => ⟨h.1, h.2.1, h.2.2.1, h.2.2.2.1, h.2.2.2.2⟩⟩
/-! ### A slice that grows: nil, or a block of the run's own -/
def accV (o n : Nat) (out : List (List V)) : V := if out = [] then .d (.val (.slice none 0 0)) else .msl o n 0 out.length
def accO (n : Nat) (out : List (List V)) : Option Own := if out = [] then none else some ⟨n, out⟩
theorem accV_nil {o n : Nat} : accV o n [] = .d (.val (.slice none 0 0)) := nrfl (if_pos rfl)
theorem accO_nil {n : Nat} : accO n [] = none := nrfl (if_pos rfl)
theorem renV_acc {rl : List Nat} {o n : Nat} {out : List (List V)} : renV rl (accV o n out) = accV (rl.getD o 0) n out := by
  unfold accV; split
  · exact renV_d
  · exact renV_msl
theorem refs_acc {S : Nat → Prop} {o n : Nat} {out : List (List V)} : V.refs S (accV o n out) = (out ≠ [] → S o) := by
  unfold accV; split
  · next h => simp [refs_d, h]
  · next h => simp [refs_msl, h]
theorem inO_acc {rl : List Nat} {m o n : Nat} {out : List (List V)} : inO rl m σ o (accO n out) = (out ≠ [] → σ o = some ⟨n, renRows rl out⟩ ∧ okRows m out) := by
  unfold accO; split
  · next h => simp [inO, h]
  · next h => simp [inO, h]
theorem renRows_data {rl : List Nat} {l : List (List D)} : renRows rl (l.map (·.map .d)) = l.map (·.map .d) := by
  rw [renRows_map, List.map_map]
  refine List.map_congr_left fun x _ => ?_
  simp only [Function.comp, List.map_map]
  exact List.map_congr_left fun y _ => renV_d
theorem accO_some {n : Nat} {out : List (List V)} (h : out ≠ []) : accO n out = some ⟨n, out⟩ := if_neg h
theorem app_acc {n byt o id : Nat} {z : List V} {sq : Bool} {y : V} {out src : List (List V)} {L : V → Heap → Prop} (hsq : sq = true) (hσ : σ o = accO n out) (h5 : srcRows σ y = some src) (hne : src ≠ []) (h6 : ∀ r ∈ src, r.length = n) (h7 : RowsOne src)
    (h8 : (2 * (out.length + src.length) + 1000) * byt ≤ 2 ^ 48) (k : L (accV id n (out ++ src)) (upd (del σ o) id (some ⟨n, out ++ src⟩))) : appK (some (n, byt, z)) sq σ id (accV o n out) y L := by
  by_cases h : out = []
  · subst h
    rw [accV_nil]
    rw [List.nil_append] at k
    refine ⟨n, byt, z, rfl, hsq, .inr (.inl ⟨o, src, rfl, h5, hne, h6, by simpa using h8, ?_⟩)⟩
    have e : accV id n src = .msl id n 0 src.length := if_neg hne
    rw [← e]; exact k
  · have e : accV id n (out ++ src) = .msl id n 0 (out.length + src.length) := by rw [accV, if_neg (by simp [h])]; simp
    rw [accV, if_neg h]
    refine ⟨n, byt, z, rfl, hsq, .inl ⟨o, out.length, ⟨n, out⟩, src, rfl, by rw [hσ, accO_some h], rfl, rfl, h5, h6, h7, h8, ?_⟩⟩
    rw [← e]; exact k
theorem SealD.data {rows : List (List D)} {o n : Nat} (h : σ o = accO n (rows.map (·.map .d))) : SealD σ (accV o n (rows.map (·.map .d))) (.sl rows) := by
  by_cases hr : rows = []
  · subst hr; exact .nil none 0
  · have hr' : rows.map (·.map V.d) ≠ [] := by simpa using hr
    rw [accV, if_neg hr']
    rw [accO_some hr'] at h
    have := SealD.msl (σ := σ) (o := o) (k := n) (off := 0) (ds := rows) h rfl (by simp) (fun i hi => by simp [List.getD_eq_getElem?_getD, hi]) (fun i j hi hj => by
      simp [List.getD_eq_getElem?_getD, hi, hj]; exact .d _)
    simpa using this
end
end Go.Iso
